/- A block of operations of a drawn region, of which some are pure: these may come up at any time behind what they read; what is left of them when the world's changes are done is taken first. No condition: plain lemmas on the model's regions. The walks of CopyBytes, Spare and hop's length. Conditions: lists of at most 2^40 elements, a number of 64 bits, the library's table of powers of ten. What every proof of a row with the listed tables shares: the post out of 'Below', the table out of the row's list, the world of the witness. No condition: plain lemmas. Out of the row's list and the shaped world: the two tables of UTF-8, internal/bytealg.MaxLen. No condition: plain lemmas. The walks of head.PrintResponse and of the document's. Conditions: a list of bulk at most 2^30, texts of at most 2^30 bytes, numbers of 64 bits, the library's table of powers of ten. -/
import Derived.Test.YtkempjcphpnocaaGreatDoorZ05
import Derived.IntWalk
import Derived.ProofKit
import Derived.OpenShut
import Derived.JoinedCond
import Derived.Deep.DeepHandedRow
import Derived.Lib.LaidTab
import Derived.LaidSub
import Derived.Lay
import Derived.Lib.LaidU8
namespace Go.Proofs.YtkempjcphpnocaaGreatDoor
open Go Go.RowKit
section
variable {P:Program} {ops:Array Oper} {Q:Exit→Act→World→Prop} {S:World→Prop}
def blockPB (ops:Array Oper) (W Z:List Nat):Nat→Array Bool→Bool
 | 0,listed=>(W++Z).all fun j=>listed.getD j false
 | k+1,listed =>
  if (W.all fun j=>listed.getD j false)=true then
   match Z.find? fun j=>!listed.getD j false with
   | none=>false
   | some p=>Region.free .any ops listed p&&(Region.ready .any ops listed).contains p&&blockPB ops W Z k (listed.setIfInBounds p true)
  else !(Region.ready .any ops listed).isEmpty&&(Region.ready .any ops listed).all fun i=>(W++Z).contains i&&blockPB ops W Z k (listed.setIfInBounds i true)
def PureStep (P:Program) (ops:Array Oper) (S:World→Prop) (R:Nat→Value→World→Prop) (M:List Nat) (lit:(Nat→Value)→Act) (i:Nat) (oi:Oper):Prop :=
 ∀ (vs:Nat→Value) (w:World),S w→(∀ j∈M,(oi.after.any fun e=>Region.binds .any e&&e.on==j)=true→R j (vs j) w) →
  ∃ v,R i v w∧YieldsIf P ops S oi v (lit vs)
theorem block_goP {R:Nat→Value→World→Prop} {n f0:Nat} {a0:Act} {listed0:Array Bool} {W Z:List Nat} {lit:(Nat→Value)→Act} (hlit:∀ vs,fillAct ops a0 (W++Z) vs=lit vs)
  (hn:(W++Z).Nodup) (ha:apartB ops (W++Z)=true) (hMn:∀ j∈W++Z,j < n) (hnS:n < ops.size) (hsel:Region.noSelect ops=true) (hsk:Region.sinkB .any ops n=true) (hch:Region.chainB .any ops n=true)
  (hQ:∀ (p:Nat) (oi:Oper),ops[p]?=some oi→∀ v c a w,Q (.panic c) (a.put oi.dst v) w→Q (.panic c) a w)
  (hSB:∀ w w',Below w.heap.size w w'→S w→S w') (hRB:∀ j v w w',Below w.heap.size w w'→R j v w→R j v w')
  (hs:∀ i∈W,∃ oi,ops[i]?=some oi∧BlockStep P ops Q S R (W++Z) lit i oi) (hp:∀ i∈Z,∃ oi,ops[i]?=some oi∧PureStep P ops S R (W++Z) lit i oi)
  (hend:∀ vs w,S w→(∀ j∈W++Z,R j (vs j) w)→HT P ops Q S n f0 (allListed (W++Z) listed0) (lit vs) w) :
  ∀ (k:Nat) (listed:Array Bool) (vs:Nat→Value) (w:World),blockPB ops W Z k listed=true→HeadInv .any ops n listed→listed.size=listed0.size →
   (∀ j,j ∉ W++Z→listed.getD j false=listed0.getD j false)→(∀ j∈W++Z,listed0.getD j false=true→listed.getD j false=true) →
   (∀ j∈W++Z,listed.getD j false=true→R j (vs j) w)→S w→wpT P .any ops Q S n (f0+k) listed (lit vs) w:=by
 intro k
 induction k with
 | zero =>
  intro listed vs w hb inv hsz hout _ hR hS
  have hall:∀ j∈W++Z,listed.getD j false=true:=fun j hj=>by
   simp only[blockPB]at hb
   exact List.all_eq_true.1 hb j hj
  have heq:listed=allListed (W++Z) listed0:=by
   apply Array.ext
   ·rw[size_allListed,hsz]
   ·intro i h1 h2
    have e1:listed[i]=listed.getD i false:=by simp [Array.getD,h1]
    have e2:(allListed (W++Z) listed0)[i]=(allListed (W++Z) listed0).getD i false:=by simp [Array.getD,h2]
    rw[e1,e2,mem_allListed]
    by_cases hi:i∈W++Z
    ·rw[hall i hi]
     have:i < listed0.size:=by rw[← hsz];exact h1
     have hc:(W++Z).contains i=true:=List.contains_iff_mem.2 hi
     rw[hc]
     simp [this]
    ·rw[hout i hi]
     have hc:(W++Z).contains i=false:=by
      rw[Bool.eq_false_iff]
      exact fun h=>hi (List.contains_iff_mem.1 h)
     rw[hc]
     simp
  subst heq
  exact hend vs w hS (fun j hj=>hR j hj (hall j hj)) inv hS
 | succ k ih =>
  intro listed vs w hb inv hsz hout hin hR hS
  -- one of them comes up: what is known behind it
  have hnext:∀ (i:Nat) (oi:Oper),i∈W++Z→ops[i]?=some oi→i∈Region.ready .any ops listed→blockPB ops W Z k (listed.setIfInBounds i true)=true→∀ v w',R i v w'→Below w.heap.size w w' →
    wpT P .any ops Q S n (f0+k) (listed.setIfInBounds i true) ((lit vs).put oi.dst v) w':=by
   intro i oi' hiM hoi hi hbk v w' hRv hbel
   have hilt:i < listed.size:=by
    rw[inv.size]
    exact (Array.getElem?_eq_some_iff.1 hoi).1
   have hd:dstAt ops i=oi'.dst:=by unfold dstAt;rw[hoi];rfl
   rw[← hlit vs,← hd,fill_put vs v (W++Z) a0 i hiM hn ha,hlit]
   refine ih (listed.setIfInBounds i true) (upd vs i v) w' hbk (inv.set hi (hMn i hiM)) (by simpa using hsz) (fun j hj=>?_) (fun j hj h0=>getD_set_true (hin j hj h0)) (fun j hj hl=>?_) (hSB _ _ hbel hS)
   ·rw[getD_set_ne false (fun (e:i=j)=>hj (by rw[← e];exact hiM))];exact hout j hj
   ·by_cases hji:j=i
    ·subst hji
     rw[show upd vs j v j=v from if_pos rfl];exact hRv
    ·rw[show upd vs i v j=vs j from if_neg hji]
     rw[getD_set_ne false (Ne.symm hji)]at hl
     exact hRB j _ _ _ hbel (hR j hj hl)
  by_cases hW:(W.all fun j=>listed.getD j false)=true
  ·simp only[blockPB,hW,if_true]at hb
   cases hf:Z.find? fun j=>!listed.getD j false with
   | none=>rw[hf]at hb;cases hb
   | some p =>
    rw[hf]at hb
    simp only[Bool.and_eq_true]at hb
    obtain⟨⟨hfree,hrd⟩,hbk⟩:=hb
    have hpZ:p∈Z:=List.mem_of_find?_eq_some hf
    have hpM:p∈W++Z:=List.mem_append.2 (.inr hpZ)
    have hr:p∈Region.ready .any ops listed:=by simpa using hrd
    obtain⟨oi,hoi,hpure⟩:=hp p hpZ
    obtain⟨_,oi',hoi',hdeps⟩:=mem_ready.1 hr
    have:oi'=oi:=Option.some.inj (hoi'.symm.trans hoi)
    subst this
    obtain⟨v,hRv,hy⟩:=hpure vs w hS (fun j hj he=>by
     rw[Array.any_eq_true']at he
     obtain⟨e,he,h2⟩:=he
     rw[Bool.and_eq_true,beq_iff_eq]at h2
     exact hR j hj (by rw[← h2.2];exact hdeps e he h2.1))
    exact wpT_first hoi (Region.noSelect_spec hsel) hsk hch hnS (hMn p hpM) (hQ p oi' hoi v) (f0+k) listed (lit vs) w inv (Region.free_spec hoi hfree) hr hy hS (hnext p oi' hpM hoi hr hbk v w hRv (Below.refl _ _))
  ·simp only[blockPB,if_neg hW,Bool.and_eq_true,Bool.not_eq_true',List.isEmpty_eq_false_iff]at hb
   refine⟨fun h0=>absurd h0 hb.1,fun i hi=>?_⟩
   have hbi:=List.all_eq_true.1 hb.2 i hi
   rw[Bool.and_eq_true,List.contains_iff_mem]at hbi
   obtain⟨hiM,hbk⟩:=hbi
   obtain⟨_,oi',hoi',hdeps⟩:=mem_ready.1 hi
   have hdp:∀ j∈W++Z,(oi'.after.any fun e=>Region.binds .any e&&e.on==j)=true→R j (vs j) w:=fun j hj he=>by
    rw[Array.any_eq_true']at he
    obtain⟨e,he,h2⟩:=he
    rw[Bool.and_eq_true,beq_iff_eq]at h2
    exact hR j hj (by rw[← h2.2];exact hdeps e he h2.1)
   rcases List.mem_append.1 hiM with hiW | hiZ
   ·obtain⟨oi,hoi,hstep⟩:=hs i hiW
    have:oi'=oi:=Option.some.inj (hoi'.symm.trans hoi)
    subst this
    refine wpOp_step hoi (fun K' hK=>hstep vs w hS hdp K' ?_)
    intro v w' hRv hbel
    exact hK _ _ ⟨fun _=>hSB _ _ hbel hS,hnext i oi' hiM hoi hi hbk v w' hRv hbel⟩
   ·obtain⟨oi,hoi,hpure⟩:=hp i hiZ
    have:oi'=oi:=Option.some.inj (hoi'.symm.trans hoi)
    subst this
    obtain⟨v,hRv,hy⟩:=hpure vs w hS hdp
    exact hy.wpOp hoi hS ⟨fun _=>hS,hnext i oi' hiM hoi hi hbk v w hRv (Below.refl _ _)⟩
theorem HT.blockP {n f0:Nat} {listed:Array Bool} {a0:Act} {w:World} (W Z:List Nat) (R:Nat→Value→World→Prop) (lit:(Nat→Value)→Act) (hlit:∀ vs,fillAct ops a0 (W++Z) vs=lit vs)
  (hM:(decide (W++Z).Nodup&&apartB ops (W++Z)&&(W++Z).all (fun j=>decide (j < n))&&(W++Z).all (fun j=>!listed.getD j false)&&blockPB ops W Z (W++Z).length listed&&Region.noSelect ops&&Region.sinkB .any ops n&&Region.chainB .any ops n&&decide (n < ops.size))=true)
  (hQ:∀ (p:Nat) (oi:Oper),ops[p]?=some oi→∀ v c a w,Q (.panic c) (a.put oi.dst v) w→Q (.panic c) a w)
  (hSB:∀ w w',Below w.heap.size w w'→S w→S w') (hRB:∀ j v w w',Below w.heap.size w w'→R j v w→R j v w')
  (hs:∀ i∈W,∃ oi,ops[i]?=some oi∧BlockStep P ops Q S R (W++Z) lit i oi) (hp:∀ i∈Z,∃ oi,ops[i]?=some oi∧PureStep P ops S R (W++Z) lit i oi)
  (hend:∀ vs w,S w→(∀ j∈W++Z,R j (vs j) w)→HT P ops Q S n f0 (allListed (W++Z) listed) (lit vs) w) :
  HT P ops Q S n (f0+(W++Z).length) listed a0 w:=by
 intro inv hS
 simp only[Bool.and_eq_true,decide_eq_true_eq]at hM
 obtain⟨⟨⟨⟨⟨⟨⟨⟨hn,ha⟩,hMn⟩,hl⟩,hb⟩,hsel⟩,hsk⟩,hch⟩,hnS⟩:=hM
 obtain⟨vs,hvs⟩:=fill_start ops a0 (W++Z)
 rw[← hvs,hlit]
 refine block_goP hlit hn ha (fun j hj=>of_decide_eq_true (List.all_eq_true.1 hMn j hj)) hnS hsel hsk hch hQ hSB hRB hs hp hend (W++Z).length listed vs w hb inv rfl (fun _ _=>rfl) (fun _ _ h=>h) (fun j hj h=>?_) hS
 have:=List.all_eq_true.1 hl j hj
 rw[h]at this
 cases this
end
end Go.Proofs.YtkempjcphpnocaaGreatDoor
namespace Go.Proofs.YtkempjcphpnocaaGreatDoor
open Go.RowKit
def RetC (w:World) (bs:List UInt8) (e:Ending) (w':World):Prop :=
 ∃ A c,e=.returned (.slice A bs.length c)∧CRow w' w.heap.size A bs.length c bs∧Below w.heap.size w w'
set_option maxHeartbeats 400000 in
theorem copyBytes_any (A:Option Addr) (c:Nat) (bs:List UInt8) (w:World) (hn:bs.length≤1099511627776) (hx:Rd w A bs.length 1 (bcells bs)) :
  Calls Tryz.prog 45 #[.slice A bs.length c] w (RetC w bs):=by
 have HX:=Lib.hid (hx.alloc (.cells #[] 5))
 clear hx
 go_enter Tryz.func45,Tryz.ntmps45
 go_wp2_with (at_builtin;refine appC _ rfl (.tmp 5) (.tmp 6) rfl w.heap.size _ 0 0 [] rfl ⟨rfl,Nat.le_refl _,.inl rfl⟩ A bs.length c bs rfl HX.out (by omega) (by rw[World.size_alloc];omega) ?_;intro A1 c1 w1 hr1 ha1)
 have hb:=((Below.refl w.heap.size w).alloc (Nat.le_refl _) (.cells #[] 5)).trans (ha1.belowC (⟨rfl,Nat.le_refl _,.inl rfl⟩:CRow _ w.heap.size _ 0 0 []) (by rw[World.size_alloc];omega))
 have e:0+bs.length=bs.length:=Nat.zero_add _
 rw[e]at hr1
 go_ret
 exact⟨A1,c1,rfl,hr1,hb⟩
def marks:List UInt8:=[201,202,203,204,205,206,207,208]
theorem marks_at (k:Nat) (h:k < 8):marks.take (k+1)=marks.take k++[UInt8.ofNat (201+k)]:=by
 have:∀ j:Fin 8,marks.take (j.1+1)=marks.take j.1++[UInt8.ofNat (201+j.1)]:=by decide
 exact this ⟨k,h⟩
theorem grown_trans {a b c:World} {r:Option Nat} (h1:Below a.heap.size a b) (h2:b.grownBy c r):a.grownBy c r :=
 ⟨h2.os.trans h1.os,h2.tape.trans h1.tape,h2.output.trans h1.output,Nat.le_trans h1.size h2.size,fun k hk hne=>(h2.block k (Nat.lt_of_lt_of_le hk h1.size) hne).trans (h1.block k hk)⟩
end Go.Proofs.YtkempjcphpnocaaGreatDoor
namespace Go.Proofs.YtkempjcphpnocaaGreatDoor
open Go.ChangeShapes Go.WideShapes Go.ChangeAt Go.RowKit
section
variable {H:Type} {enc:TypeId × Value→H} {P:Program}
theorem post_of_below {f:Func} {s:ChangeSpec} {apart fresh handsOn again:Bool} {W W':World} {args:Array Value} {v:Value} {ds gs:List (DataW H)} {before pa pv:List MemPlace}
  (hW:DataW.Whole enc P f.params.toList s.vars apart W args.toList ds gs before)
  (hres:∀ (b:Nat) (sp:Nat→Bool) (hd:Bool),DataW.TrodAll enc P W' b sp hd f.resultTypes.toList (v.resultList f.resultTypes.size) (s.fn H (ds++gs)).results [])
  (hargs:∀ sp:Nat→Bool,(∀ p∈before,sp p.block=true)→DataW.TrodAll enc P W' 0 sp true f.params.toList args.toList (s.fn H (ds++gs)).args pa)
  (hvars:∀ sp:Nat→Bool,(∀ p∈before,sp p.block=true)→DataW.TrodVars enc P W' sp s.vars (s.fn H (ds++gs)).vars pv)
  (hps:before=pa++pv) (hb:Below W.heap.size W W')
  (hok:∀ (j:Nat) (t:TypeId) (r:Value),f.resultTypes[j]?=some t→(v.resultList f.resultTypes.size)[j]?=some r→Value.okWide P W' .any 0 t r) :
  s.post enc P f apart fresh handsOn again W args v W':=by
 have hlt:∀ p∈before,p.block < W.heap.size:=fun p hp=>hW.lt p hp
 have hold:∀ p∈before,(fun b=>decide (b < W.heap.size)) p.block=true:=fun p hp=>by simpa using hlt p hp
 refine⟨ds,gs,before,[],pa,pv,hW,hres _ _ _,hargs _ hold,hvars _ hold,World.keptBut_mono (fun p hp=>⟨hp,?_⟩) (hb.frame (·∈before)),fun _=>?_⟩
 ·rw[hps,List.mem_append]at hp
  exact Or.inr hp
 ·obtain⟨_,_,_,_,_,hz,hn⟩:=hW
  refine⟨hok,_,_,([]++pa)++pv,⟨[]++pa,pv,trodAll_append (hargs _ (fun _ _=>rfl)) (hres _ _ _),hvars _ (fun _ _=>rfl),rfl,?_,?_⟩,?_⟩
  ·intro b off hp
   have hin:MemPlace.cell b off∈before:=by rw[hps];simpa using hp
   rw[hb.frozen (hlt _ hin)]
   exact hz b off hin
  ·intro ha
   have:=hn ha
   rw[hps]at this
   simpa using this
  ·intro p hp _
   rw[hps]
   simpa using hp
end
theorem own_:ownKnob Tryz.prog.godebug=none:=by kernel_rfl
theorem tab_g:Tryz.prog.globalNamed "internal/strconv.uint64pow10"=some 4:=by kernel_rfl
theorem tab_t:(Tryz.prog.globals[4]?).map (·.type)=some 263:=by kernel_rfl
theorem tab_n:Tryz.prog.cellsOf 263=20:=by kernel_rfl
theorem tab_e:Tryz.prog.cellsOf 158=1:=by kernel_rfl
theorem tab_ul:Tryz.prog.underlying 263=some (.array 20 158):=by kernel_rfl
theorem tab_ue:Tryz.prog.underlying 158=some (.int .u64):=by kernel_rfl
theorem tab_of {W:World} {laid:List (String × DataW Unit)} (h:laidMetH Tryz.prog laid W)
  (hm:laid.filter (fun x=>x.1== "internal/strconv.uint64pow10")=[("internal/strconv.uint64pow10",Rows.laid_internal_strconv_uint64pow10)]):TabOk W:=by
 have h1:=h.filter (fun x=>x.1== "internal/strconv.uint64pow10")
 rw[hm]at h1
 exact Lib.tabIs_of_head (rest:=[]) tab_g tab_t tab_ul tab_ue tab_e tab_n h1
theorem int_bounds {a:Int} (h:(Lit.int .i64 a).wf=true):-9223372036854775808≤a∧a≤9223372036854775807:=by
 unfold Lit.wf at h
 rw[Bool.and_eq_true,decide_eq_true_eq,decide_eq_true_eq]at h
 exact h
end Go.Proofs.YtkempjcphpnocaaGreatDoor
namespace Go.Proofs.YtkempjcphpnocaaGreatDoor
open Go.Lib
theorem first_eq:Rows.laid_unicode_utf8_first=firstData:=by kernel_rfl
theorem accept_eq:(Rows.laid_unicode_utf8_acceptRanges:DataW Unit)=acceptData:=by kernel_rfl
theorem u8_extra:U8Extra Tryz.prog Tryz.lays260_ren :=
 ⟨by kernel_rfl,by kernel_rfl,by kernel_rfl,by kernel_rfl,by kernel_rfl,by kernel_rfl,by kernel_rfl⟩
theorem u8_of {W:World} {laid:List (String × DataW Unit)} (h:laidMetH Tryz.prog laid W)
  (hm:laid.filter (fun x=>x.1== "unicode/utf8.acceptRanges"||x.1== "unicode/utf8.first")=[("unicode/utf8.acceptRanges",Rows.laid_unicode_utf8_acceptRanges),("unicode/utf8.first",Rows.laid_unicode_utf8_first)]) :
  Lib.Utf8Tabs 0 1 W:=by
 have h1:=h.filter (fun x=>x.1== "unicode/utf8.acceptRanges"||x.1== "unicode/utf8.first")
 rw[hm]at h1
 have h2:laidMet Tryz.prog [("unicode/utf8.acceptRanges",Rows.laid_unicode_utf8_acceptRanges),("unicode/utf8.first",Rows.laid_unicode_utf8_first)] W:=h1
 exact utf8Tabs_of_reads Tryz.lays260 u8_extra (first_eq ▸ laidMet.reads h2 (by simp)) (accept_eq ▸ laidMet.reads h2 (by simp))
theorem lib_of {W:World} {laid:List (String × DataW Unit)} (h:laidMetH Tryz.prog laid W) (hs:W.ShapedOpen Tryz.prog)
  (hm:laid.filter (fun x=>x.1== "unicode/utf8.acceptRanges"||x.1== "unicode/utf8.first")=[("unicode/utf8.acceptRanges",Rows.laid_unicode_utf8_acceptRanges),("unicode/utf8.first",Rows.laid_unicode_utf8_first)]):LibOk W :=
 ⟨u8_of h hm,Tryz.laysM145.s1_3 W hs⟩
end Go.Proofs.YtkempjcphpnocaaGreatDoor
namespace Go.Proofs.YtkempjcphpnocaaGreatDoor
open Go.RowKit
theorem resp_bad {s m:Int} {r:ByteArray} {fs:List FD} (h:m < 0∨1 < m∨F.text r=false):F.respB s r m fs=[]∧F.respE s r m fs=50:=by
 have h1:F.respE s r m fs=50:=if_pos h
 exact⟨if_neg (by rw[h1];decide),h1⟩
theorem resp_status {s m:Int} {r:ByteArray} {fs:List FD} (h:¬ (m < 0∨1 < m∨F.text r=false)) (h2:s < 100∨599 < s):F.respB s r m fs=[]∧F.respE s r m fs=53:=by
 have h1:F.respE s r m fs=53:=(if_neg h).trans (if_pos h2)
 exact⟨if_neg (by rw[h1];decide),h1⟩
theorem resp_ok {s m:Int} {r:ByteArray} {fs:List FD} (h:¬ (m < 0∨1 < m∨F.text r=false)) (h2:¬ (s < 100∨599 < s)):F.respB s r m fs=F.wholeB (F.respLine s r m) fs∧F.respE s r m fs=F.wholeE (F.respLine s r m) fs:=by
 have h1:F.respE s r m fs=F.wholeE (F.respLine s r m) fs:=(if_neg h).trans (if_neg h2)
 refine⟨?_,h1⟩
 unfold F.respB
 rw[h1]
 split
 ·rfl
 ·rename_i h3
  exact (if_neg h3).symm
set_option maxRecDepth 100000 in
set_option maxHeartbeats 4000000 in
theorem printResponse_any (s:Int) (r:ByteArray) (m:Int) (A:Option Addr) (c:Nat) (fs:List FD) (w:World) (hr:r.size≤1073741824) (hf:F.bulk fs≤1073741824) (hx:Rd w A fs.length 2 (fcells fs)) (ht:TabOk w) :
  Calls Tryz.prog 76 #[.agg #[.int .i64 s,.string r,.int .i64 m,.slice A fs.length c]] w (RetBE w (F.respB s r m fs) (F.respE s r m fs)):=by
 have HTX:=Lib.hid (fun u=>text_any r u (by omega))
 by_cases hbad:m < 0∨1 < m∨F.text r=false
 ·have HRB:=Lib.hid (resp_bad (s:=s) (m:=m) (r:=r) (fs:=fs) hbad)
  generalize F.respB s r m fs=PB at *
  generalize F.respE s r m fs=PE at *
  clear hx
  by_cases hm0:m < 0
  ·have g1:decide (m < 0)=true:=by simpa using hm0
   have g1:0≤0:=Nat.le_refl 0
   clear hbad HTX
   have HB0:=Lib.hid ((Below.refl w.heap.size w).alloc (Nat.le_refl _) (.cells #[.int .i64 s,.string r,.int .i64 m,.slice A fs.length c] 25))
   go_enter Tryz.func76,Tryz.ntmps76
   go_wp2
   refine bodyPost_ret (v:=.tuple #[.slice none 0 0,.int .i64 50]) (by simp [results,Tryz.results76,go_sem]) rfl ?_
   exact RetBE.none_ HB0.out HRB.out.1 HRB.out.2
  ·by_cases hm1:1 < m
   ·have g1:decide (m < 0)=false:=by rw[decide_eq_false_iff_not];omega
    have g2:decide (m > 1)=true:=by rw[decide_eq_true_eq];omega
    have g1:0≤0:=Nat.le_refl 0
    have g7:¬ m < 0:=by omega
    clear hbad HTX
    have HB0:=Lib.hid ((Below.refl w.heap.size w).alloc (Nat.le_refl _) (.cells #[.int .i64 s,.string r,.int .i64 m,.slice A fs.length c] 25))
    go_enter Tryz.func76,Tryz.ntmps76
    go_wp2
    refine bodyPost_ret (v:=.tuple #[.slice none 0 0,.int .i64 50]) (by simp [results,Tryz.results76,go_sem]) rfl ?_
    exact RetBE.none_ HB0.out HRB.out.1 HRB.out.2
   ·have htx:F.text r=false:=by
     rcases hbad with h | h | h
     ·exact absurd h hm0
     ·exact absurd h hm1
     ·exact h
    rw[htx]at HTX
    clear hbad htx
    go_enter Tryz.func76,Tryz.ntmps76
    go_wp2_with fail
    have HK0:=Lib.hid (Blk.new w #[.int .i64 s,.string r,.int .i64 m,.slice A fs.length c] 25)
    have HB0:=Lib.hid ((Below.refl w.heap.size w).alloc (Nat.le_refl _) (.cells #[.int .i64 s,.string r,.int .i64 m,.slice A fs.length c] 25))
    generalize w.alloc (.cells #[.int .i64 s,.string r,.int .i64 m,.slice A fs.length c] 25)=w0 at *
    refine (HTX.out _).mono ?_
    rintro e w1 ⟨rfl,hb1⟩
    replace HK0:=Lib.hid (HK0.out.below hb1)
    replace HB0:=Lib.hid (below_then HB0.out.size HB0.out hb1)
    obtain⟨x0,x1,x2,x3⟩:=HK0.out.cells4
    clear hb1 HTX
    go_wp2
    refine bodyPost_ret (v:=.tuple #[.slice none 0 0,.int .i64 50]) (by simp [results,Tryz.results76,go_sem]) rfl ?_
    exact RetBE.none_ HB0.out HRB.out.1 HRB.out.2
 ·have htx:F.text r=true:=by
   rcases tf (F.text r) with h | h
   ·exact h
   ·exact absurd (.inr (.inr h)) hbad
  rw[htx]at HTX
  have hm0:¬ m < 0:=fun h=>hbad (.inl h)
  have hm1:¬ 1 < m:=fun h=>hbad (.inr (.inl h))
  by_cases hst:s < 100∨599 < s
  ·have HRB:=Lib.hid (resp_status (s:=s) (m:=m) (r:=r) (fs:=fs) hbad hst)
   generalize F.respB s r m fs=PB at *
   generalize F.respE s r m fs=PE at *
   clear hx hbad htx
   by_cases hs1:s < 100
   ·have g8:decide (s < 100)=true:=by simpa using hs1
    clear hst
    go_enter Tryz.func76,Tryz.ntmps76
    go_wp2_with fail
    have HK0:=Lib.hid (Blk.new w #[.int .i64 s,.string r,.int .i64 m,.slice A fs.length c] 25)
    have HB0:=Lib.hid ((Below.refl w.heap.size w).alloc (Nat.le_refl _) (.cells #[.int .i64 s,.string r,.int .i64 m,.slice A fs.length c] 25))
    generalize w.alloc (.cells #[.int .i64 s,.string r,.int .i64 m,.slice A fs.length c] 25)=w0 at *
    refine (HTX.out _).mono ?_
    rintro e w1 ⟨rfl,hb1⟩
    replace HK0:=Lib.hid (HK0.out.below hb1)
    replace HB0:=Lib.hid (below_then HB0.out.size HB0.out hb1)
    obtain⟨x0,x1,x2,x3⟩:=HK0.out.cells4
    clear hb1 HTX
    go_wp2
    refine bodyPost_ret (v:=.tuple #[.slice none 0 0,.int .i64 53]) (by simp [results,Tryz.results76,go_sem]) rfl ?_
    exact RetBE.none_ HB0.out HRB.out.1 HRB.out.2
   ·have hs2:599 < s:=by omega
    have g8:decide (s < 100)=false:=by rw[decide_eq_false_iff_not];omega
    have g9:decide (s > 599)=true:=by rw[decide_eq_true_eq];omega
    clear hst
    go_enter Tryz.func76,Tryz.ntmps76
    go_wp2_with fail
    have HK0:=Lib.hid (Blk.new w #[.int .i64 s,.string r,.int .i64 m,.slice A fs.length c] 25)
    have HB0:=Lib.hid ((Below.refl w.heap.size w).alloc (Nat.le_refl _) (.cells #[.int .i64 s,.string r,.int .i64 m,.slice A fs.length c] 25))
    generalize w.alloc (.cells #[.int .i64 s,.string r,.int .i64 m,.slice A fs.length c] 25)=w0 at *
    refine (HTX.out _).mono ?_
    rintro e w1 ⟨rfl,hb1⟩
    replace HK0:=Lib.hid (HK0.out.below hb1)
    replace HB0:=Lib.hid (below_then HB0.out.size HB0.out hb1)
    obtain⟨x0,x1,x2,x3⟩:=HK0.out.cells4
    clear hb1 HTX
    go_wp2
    refine bodyPost_ret (v:=.tuple #[.slice none 0 0,.int .i64 53]) (by simp [results,Tryz.results76,go_sem]) rfl ?_
    exact RetBE.none_ HB0.out HRB.out.1 HRB.out.2
  ·have HRB:=Lib.hid (resp_ok (s:=s) (m:=m) (r:=r) (fs:=fs) hbad hst)
   have hs1:¬ s < 100:=fun h=>hst (.inl h)
   have hs2:¬ 599 < s:=fun h=>hst (.inr h)
   have zI:(B (Lib.itoa m)).size≤21:=by rw[B_size];exact Lib.itoa_length_le m (by omega) (by omega)
   have zJ:(B (Lib.itoa s)).size≤21:=by rw[B_size];exact Lib.itoa_length_le s (by omega) (by omega)
   have HI:=Lib.hid (fun (u:World) (hb:Below w.heap.size w u)=>itoa_any m (by omega) (by omega) u (ht.below hb))
   have HJ:=Lib.hid (fun (u:World) (hb:Below w.heap.size w u)=>itoa_any s (by omega) (by omega) u (ht.below hb))
   have hline:L (⟨#[72,84,84,80,47,49,46]⟩++B (Lib.itoa m)++⟨#[32]⟩++B (Lib.itoa s)++⟨#[32]⟩++r:ByteArray)=F.respLine s r m:=by
    simp only[L_append]
    rfl
   have hlsz:(⟨#[72,84,84,80,47,49,46]⟩++B (Lib.itoa m)++⟨#[32]⟩++B (Lib.itoa s)++⟨#[32]⟩++r:ByteArray).size=7+(B (Lib.itoa m)).size+1+(B (Lib.itoa s)).size+1+r.size:=by
    simp only[ByteArray.size_append]
    rfl
   have HWH:=Lib.hid (fun (u:World) (hb:Below w.heap.size w u)=>whole_any (⟨#[72,84,84,80,47,49,46]⟩++B (Lib.itoa m)++⟨#[32]⟩++B (Lib.itoa s)++⟨#[32]⟩++r:ByteArray) A c fs u (by omega) hf (hx.below hb))
   rw[hline]at HWH
   generalize F.respB s r m fs=PB at *
   generalize F.respE s r m fs=PE at *
   generalize F.wholeB (F.respLine s r m) fs=WB at *
   generalize F.wholeE (F.respLine s r m) fs=WE at *
   clear hline hlsz
   generalize B (Lib.itoa m)=I at *
   generalize B (Lib.itoa s)=J at *
   have hq1:7+I.size≤9223372036854775807:=by omega
   have hq2:7+I.size+1≤9223372036854775807:=by omega
   have hq3:7+I.size+1+J.size≤9223372036854775807:=by omega
   have hq4:7+I.size+1+J.size+1≤9223372036854775807:=by omega
   have hq5:7+I.size+1+J.size+1+r.size≤9223372036854775807:=by omega
   clear hx hbad htx hst
   go_enter Tryz.func76,Tryz.ntmps76
   go_wp2_with fail
   have HK0:=Lib.hid (Blk.new w #[.int .i64 s,.string r,.int .i64 m,.slice A fs.length c] 25)
   have HB0:=Lib.hid ((Below.refl w.heap.size w).alloc (Nat.le_refl _) (.cells #[.int .i64 s,.string r,.int .i64 m,.slice A fs.length c] 25))
   generalize w.alloc (.cells #[.int .i64 s,.string r,.int .i64 m,.slice A fs.length c] 25)=w0 at *
   refine (HTX.out _).mono ?_
   rintro e w1 ⟨rfl,hb1⟩
   replace HK0:=Lib.hid (HK0.out.below hb1)
   replace HB0:=Lib.hid (below_then HB0.out.size HB0.out hb1)
   obtain⟨x0,x1,x2,x3⟩:=HK0.out.cells4
   clear hb1 HTX
   go_wp2
   have hS0:=And.intro HK0.out.drew HB0.out.drew
   clear HK0 HB0
   refine wp_region_noPanic ?_
   refine HT.begin (n:=18) (S:=(fun u=>Blk u w.heap.size #[.int .i64 s,.string r,.int .i64 m,.slice A fs.length c] 25∧Below w.heap.size w u)) (by kernel_rfl) hS0 ?_
   refine HT.take 0 (.pointer (some ⟨w.heap.size,2,none⟩)) rfl (by kernel_rfl) (fun _ _ _ h=>h) (Or.inl ⟨by rfl,?_⟩) (?_:HT _ _ _ _ _ _ _ ⟨#[_,_,_,_,_,_,_,_,_,_,_,_,_,_,_,_,_,_,_,_,_,_,_,_,_,_,_,_,.pointer (some ⟨w.heap.size,2,none⟩),_,_,_,_,_,_,_,_,_,_,_,_,_,_,_,_,_],[]⟩ _)
   ·intro u hu
    go_simp
   refine HT.take 1 (.int .i64 m) rfl (by kernel_rfl) (fun _ _ _ h=>h) (Or.inl ⟨by rfl,?_⟩) (?_:HT _ _ _ _ _ _ _ ⟨#[_,_,_,_,_,_,_,_,_,_,_,_,_,_,_,_,_,_,_,_,_,_,_,_,_,_,_,_,.pointer (some ⟨w.heap.size,2,none⟩),.int .i64 m,_,_,_,_,_,_,_,_,_,_,_,_,_,_,_,_],[]⟩ _)
   ·intro u hu
    obtain⟨x0,x1,x2,x3⟩:=hu.1.cells4
    go_simp
   refine HT.take 5 (.pointer (some ⟨w.heap.size,0,none⟩)) rfl (by kernel_rfl) (fun _ _ _ h=>h) (Or.inl ⟨by rfl,?_⟩) (?_:HT _ _ _ _ _ _ _ ⟨#[_,_,_,_,_,_,_,_,_,_,_,_,_,_,_,_,_,_,_,_,_,_,_,_,_,_,_,_,.pointer (some ⟨w.heap.size,2,none⟩),.int .i64 m,_,_,_,.pointer (some ⟨w.heap.size,0,none⟩),_,_,_,_,_,_,_,_,_,_,_,_],[]⟩ _)
   ·intro u hu
    go_simp
   refine HT.take 6 (.int .i64 s) rfl (by kernel_rfl) (fun _ _ _ h=>h) (Or.inl ⟨by rfl,?_⟩) (?_:HT _ _ _ _ _ _ _ ⟨#[_,_,_,_,_,_,_,_,_,_,_,_,_,_,_,_,_,_,_,_,_,_,_,_,_,_,_,_,.pointer (some ⟨w.heap.size,2,none⟩),.int .i64 m,_,_,_,.pointer (some ⟨w.heap.size,0,none⟩),.int .i64 s,_,_,_,_,_,_,_,_,_,_,_],[]⟩ _)
   ·intro u hu
    obtain⟨x0,x1,x2,x3⟩:=hu.1.cells4
    go_simp
   refine HT.take 10 (.pointer (some ⟨w.heap.size,1,none⟩)) rfl (by kernel_rfl) (fun _ _ _ h=>h) (Or.inl ⟨by rfl,?_⟩) (?_:HT _ _ _ _ _ _ _ ⟨#[_,_,_,_,_,_,_,_,_,_,_,_,_,_,_,_,_,_,_,_,_,_,_,_,_,_,_,_,.pointer (some ⟨w.heap.size,2,none⟩),.int .i64 m,_,_,_,.pointer (some ⟨w.heap.size,0,none⟩),.int .i64 s,_,_,_,.pointer (some ⟨w.heap.size,1,none⟩),_,_,_,_,_,_,_],[]⟩ _)
   ·intro u hu
    go_simp
   refine HT.take 11 (.string r) rfl (by kernel_rfl) (fun _ _ _ h=>h) (Or.inl ⟨by rfl,?_⟩) (?_:HT _ _ _ _ _ _ _ ⟨#[_,_,_,_,_,_,_,_,_,_,_,_,_,_,_,_,_,_,_,_,_,_,_,_,_,_,_,_,.pointer (some ⟨w.heap.size,2,none⟩),.int .i64 m,_,_,_,.pointer (some ⟨w.heap.size,0,none⟩),.int .i64 s,_,_,_,.pointer (some ⟨w.heap.size,1,none⟩),.string r,_,_,_,_,_,_],[]⟩ _)
   ·intro u hu
    obtain⟨x0,x1,x2,x3⟩:=hu.1.cells4
    go_simp
   refine HT.take 13 (.pointer (some ⟨w.heap.size,3,none⟩)) rfl (by kernel_rfl) (fun _ _ _ h=>h) (Or.inl ⟨by rfl,?_⟩) (?_:HT _ _ _ _ _ _ _ ⟨#[_,_,_,_,_,_,_,_,_,_,_,_,_,_,_,_,_,_,_,_,_,_,_,_,_,_,_,_,.pointer (some ⟨w.heap.size,2,none⟩),.int .i64 m,_,_,_,.pointer (some ⟨w.heap.size,0,none⟩),.int .i64 s,_,_,_,.pointer (some ⟨w.heap.size,1,none⟩),.string r,_,.pointer (some ⟨w.heap.size,3,none⟩),_,_,_,_],[]⟩ _)
   ·intro u hu
    go_simp
   refine HT.take 14 (.slice A fs.length c) rfl (by kernel_rfl) (fun _ _ _ h=>h) (Or.inl ⟨by rfl,?_⟩) (?_:HT _ _ _ _ _ _ _ ⟨#[_,_,_,_,_,_,_,_,_,_,_,_,_,_,_,_,_,_,_,_,_,_,_,_,_,_,_,_,.pointer (some ⟨w.heap.size,2,none⟩),.int .i64 m,_,_,_,.pointer (some ⟨w.heap.size,0,none⟩),.int .i64 s,_,_,_,.pointer (some ⟨w.heap.size,1,none⟩),.string r,_,.pointer (some ⟨w.heap.size,3,none⟩),.slice A fs.length c,_,_,_],[]⟩ _)
   ·intro u hu
    obtain⟨x0,x1,x2,x3⟩:=hu.1.cells4
    go_simp
   refine HT.step 2 rfl (by kernel_rfl) (fun hS K hK=>?_)
   go_simp
   refine (HI.out _ hS.2).mono ?_
   rintro e w2 ⟨rfl,hb2⟩
   refine hK.out _ _ ⟨hS.1.below hb2,below_then hS.2.size hS.2 hb2⟩ ?_
   clear hK hS hb2 hS0
   refine HT.take 3 (.string (⟨#[72,84,84,80,47,49,46]⟩++I)) rfl (by kernel_rfl) (fun _ _ _ h=>h) (Or.inl ⟨by rfl,?_⟩) (?_:HT _ _ _ _ _ _ _ ⟨#[_,_,_,_,_,_,_,_,_,_,_,_,_,_,_,_,_,_,_,_,_,_,_,_,_,_,_,_,.pointer (some ⟨w.heap.size,2,none⟩),.int .i64 m,.string I,.string (⟨#[72,84,84,80,47,49,46]⟩++I),_,.pointer (some ⟨w.heap.size,0,none⟩),.int .i64 s,_,_,_,.pointer (some ⟨w.heap.size,1,none⟩),.string r,_,.pointer (some ⟨w.heap.size,3,none⟩),.slice A fs.length c,_,_,_],[]⟩ _)
   ·intro u hu
    go_simp
   refine HT.take 4 (.string (⟨#[72,84,84,80,47,49,46]⟩++I++⟨#[32]⟩)) rfl (by kernel_rfl) (fun _ _ _ h=>h) (Or.inl ⟨by rfl,?_⟩) (?_:HT _ _ _ _ _ _ _ ⟨#[_,_,_,_,_,_,_,_,_,_,_,_,_,_,_,_,_,_,_,_,_,_,_,_,_,_,_,_,.pointer (some ⟨w.heap.size,2,none⟩),.int .i64 m,.string I,.string (⟨#[72,84,84,80,47,49,46]⟩++I),.string (⟨#[72,84,84,80,47,49,46]⟩++I++⟨#[32]⟩),.pointer (some ⟨w.heap.size,0,none⟩),.int .i64 s,_,_,_,.pointer (some ⟨w.heap.size,1,none⟩),.string r,_,.pointer (some ⟨w.heap.size,3,none⟩),.slice A fs.length c,_,_,_],[]⟩ _)
   ·intro u hu
    go_simp
   refine HT.step 7 rfl (by kernel_rfl) (fun hS K hK=>?_)
   go_simp
   refine (HJ.out _ hS.2).mono ?_
   rintro e w3 ⟨rfl,hb3⟩
   refine hK.out _ _ ⟨hS.1.below hb3,below_then hS.2.size hS.2 hb3⟩ ?_
   clear hK hS hb3
   refine HT.take 8 (.string (⟨#[72,84,84,80,47,49,46]⟩++I++⟨#[32]⟩++J)) rfl (by kernel_rfl) (fun _ _ _ h=>h) (Or.inl ⟨by rfl,?_⟩) (?_:HT _ _ _ _ _ _ _ ⟨#[_,_,_,_,_,_,_,_,_,_,_,_,_,_,_,_,_,_,_,_,_,_,_,_,_,_,_,_,.pointer (some ⟨w.heap.size,2,none⟩),.int .i64 m,.string I,.string (⟨#[72,84,84,80,47,49,46]⟩++I),.string (⟨#[72,84,84,80,47,49,46]⟩++I++⟨#[32]⟩),.pointer (some ⟨w.heap.size,0,none⟩),.int .i64 s,.string J,.string (⟨#[72,84,84,80,47,49,46]⟩++I++⟨#[32]⟩++J),_,.pointer (some ⟨w.heap.size,1,none⟩),.string r,_,.pointer (some ⟨w.heap.size,3,none⟩),.slice A fs.length c,_,_,_],[]⟩ _)
   ·intro u hu
    go_simp
   refine HT.take 9 (.string (⟨#[72,84,84,80,47,49,46]⟩++I++⟨#[32]⟩++J++⟨#[32]⟩)) rfl (by kernel_rfl) (fun _ _ _ h=>h) (Or.inl ⟨by rfl,?_⟩) (?_:HT _ _ _ _ _ _ _ ⟨#[_,_,_,_,_,_,_,_,_,_,_,_,_,_,_,_,_,_,_,_,_,_,_,_,_,_,_,_,.pointer (some ⟨w.heap.size,2,none⟩),.int .i64 m,.string I,.string (⟨#[72,84,84,80,47,49,46]⟩++I),.string (⟨#[72,84,84,80,47,49,46]⟩++I++⟨#[32]⟩),.pointer (some ⟨w.heap.size,0,none⟩),.int .i64 s,.string J,.string (⟨#[72,84,84,80,47,49,46]⟩++I++⟨#[32]⟩++J),.string (⟨#[72,84,84,80,47,49,46]⟩++I++⟨#[32]⟩++J++⟨#[32]⟩),.pointer (some ⟨w.heap.size,1,none⟩),.string r,_,.pointer (some ⟨w.heap.size,3,none⟩),.slice A fs.length c,_,_,_],[]⟩ _)
   ·intro u hu
    go_simp
   refine HT.take 12 (.string (⟨#[72,84,84,80,47,49,46]⟩++I++⟨#[32]⟩++J++⟨#[32]⟩++r)) rfl (by kernel_rfl) (fun _ _ _ h=>h) (Or.inl ⟨by rfl,?_⟩) (?_:HT _ _ _ _ _ _ _ ⟨#[_,_,_,_,_,_,_,_,_,_,_,_,_,_,_,_,_,_,_,_,_,_,_,_,_,_,_,_,.pointer (some ⟨w.heap.size,2,none⟩),.int .i64 m,.string I,.string (⟨#[72,84,84,80,47,49,46]⟩++I),.string (⟨#[72,84,84,80,47,49,46]⟩++I++⟨#[32]⟩),.pointer (some ⟨w.heap.size,0,none⟩),.int .i64 s,.string J,.string (⟨#[72,84,84,80,47,49,46]⟩++I++⟨#[32]⟩++J),.string (⟨#[72,84,84,80,47,49,46]⟩++I++⟨#[32]⟩++J++⟨#[32]⟩),.pointer (some ⟨w.heap.size,1,none⟩),.string r,.string (⟨#[72,84,84,80,47,49,46]⟩++I++⟨#[32]⟩++J++⟨#[32]⟩++r),.pointer (some ⟨w.heap.size,3,none⟩),.slice A fs.length c,_,_,_],[]⟩ _)
   ·intro u hu
    go_simp
   refine HT.step 15 rfl (by kernel_rfl) (fun hS K hK=>?_)
   go_simp
   refine (HWH.out _ hS.2).mono ?_
   rintro e w4 ⟨R0,d,rfl,hr4,hb4⟩
   refine hK.out _ _ ⟨hS.1.below hb4,below_then hS.2.size hS.2 hb4⟩ ?_
   have HR4:=Lib.hid (hr4.mono hS.2.size)
   clear hK hS hb4 hr4
   refine HT.take 16 (.slice R0 WB.length d) rfl (by kernel_rfl) (fun _ _ _ h=>h) (Or.inl ⟨by rfl,?_⟩) (?_:HT _ _ _ _ _ _ _ ⟨#[_,_,_,_,_,_,_,_,_,_,_,_,_,_,_,_,_,_,_,_,_,_,_,_,_,_,_,_,.pointer (some ⟨w.heap.size,2,none⟩),.int .i64 m,.string I,.string (⟨#[72,84,84,80,47,49,46]⟩++I),.string (⟨#[72,84,84,80,47,49,46]⟩++I++⟨#[32]⟩),.pointer (some ⟨w.heap.size,0,none⟩),.int .i64 s,.string J,.string (⟨#[72,84,84,80,47,49,46]⟩++I++⟨#[32]⟩++J),.string (⟨#[72,84,84,80,47,49,46]⟩++I++⟨#[32]⟩++J++⟨#[32]⟩),.pointer (some ⟨w.heap.size,1,none⟩),.string r,.string (⟨#[72,84,84,80,47,49,46]⟩++I++⟨#[32]⟩++J++⟨#[32]⟩++r),.pointer (some ⟨w.heap.size,3,none⟩),.slice A fs.length c,.tuple #[.slice R0 WB.length d,.int .i64 WE],.slice R0 WB.length d,_],[]⟩ _)
   ·intro u hu
    go_simp
   refine HT.take 17 (.int .i64 WE) rfl (by kernel_rfl) (fun _ _ _ h=>h) (Or.inl ⟨by rfl,?_⟩) (?_:HT _ _ _ _ _ _ _ ⟨#[_,_,_,_,_,_,_,_,_,_,_,_,_,_,_,_,_,_,_,_,_,_,_,_,_,_,_,_,.pointer (some ⟨w.heap.size,2,none⟩),.int .i64 m,.string I,.string (⟨#[72,84,84,80,47,49,46]⟩++I),.string (⟨#[72,84,84,80,47,49,46]⟩++I++⟨#[32]⟩),.pointer (some ⟨w.heap.size,0,none⟩),.int .i64 s,.string J,.string (⟨#[72,84,84,80,47,49,46]⟩++I++⟨#[32]⟩++J),.string (⟨#[72,84,84,80,47,49,46]⟩++I++⟨#[32]⟩++J++⟨#[32]⟩),.pointer (some ⟨w.heap.size,1,none⟩),.string r,.string (⟨#[72,84,84,80,47,49,46]⟩++I++⟨#[32]⟩++J++⟨#[32]⟩++r),.pointer (some ⟨w.heap.size,3,none⟩),.slice A fs.length c,.tuple #[.slice R0 WB.length d,.int .i64 WE],.slice R0 WB.length d,.int .i64 WE],[]⟩ _)
   ·intro u hu
    go_simp
   refine HT.tail _ rfl rfl (by kernel_rfl) (fun hS=>?_)
   have HB:=Lib.hid hS.2
   clear hS
   go_wp2
   refine NoPanic.normal ?_
   go_wp2
   refine bodyPost_ret (v:=.tuple #[.slice R0 WB.length d,.int .i64 WE]) (by simp [results,Tryz.results76,go_sem]) rfl ?_
   rw[HRB.out.1,HRB.out.2]
   exact⟨R0,d,rfl,HR4.out,HB.out⟩
end Go.Proofs.YtkempjcphpnocaaGreatDoor
