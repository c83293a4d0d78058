/- The walk of swaplog.Replay. Condition: at most 2^30 bytes. -/
import Derived.Test.YtkempjcphpnocaaGreatDoorRecD
import Derived.Maps.AppendAt
namespace Go.Proofs.YtkempjcphpnocaaGreatDoor
open Go Go.RowKit Go.Maps
attribute [local go_sem] Oper.semAt_some
namespace R
theorem dec_le (l:List UInt8):(dec l).2.1≤l.length:=by
 unfold dec
 split
 ·exact Nat.zero_le _
 split
 ·exact Nat.zero_le _
 split
 ·exact Nat.zero_le _
 split
 ·exact Nat.zero_le _
 split
 ·exact Nat.zero_le _
 split
 ·exact Nat.zero_le _
 ·rename_i h _
  show _+15≤_
  omega
theorem recs_unroll {f:Nat} {l:List UInt8} (h:l.length≤f) (a s:Nat):recs f l a s=if (dec l).2.2≠0∨(dec l).2.1=0∨(dec l).1.seq≠s then [] else ((dec l).1,a+(dec l).2.1)::recs (f - 1) (l.drop (dec l).2.1) (a+(dec l).2.1) (s+1):=by
 cases f with
 | zero =>
  have:l=[]:=List.eq_nil_of_length_eq_zero (by omega)
  subst this
  exact (if_pos (.inr (.inl rfl))).symm
 | succ f=>rfl
theorem recs_len:∀ (f:Nat) (l:List UInt8) (a s:Nat),(recs f l a s).length≤f
 | 0,_,_,_=>Nat.le_refl _
 | f+1,l,a,s=>by
  rw[recs]
  split
  ·exact Nat.zero_le _
  ·exact Nat.succ_le_succ (recs_len f _ _ _)
end R
def recA (x:R.Rc × Nat):Array Value:=#[recV x.1,.int .i64 x.2]
set_option maxRecDepth 100000 in
set_option maxHeartbeats 2000000 in
theorem recs1_any (l bx:Nat) (bs:List UInt8) (b o n c:Nat) (hl:bs.length=n) (hnc:n≤c) (hn:n≤1073741824) (w0:World) (hx:Rd w0 (some ⟨b,o,none⟩) n 1 (bcells bs))
  (J Jx:List (R.Rc × Nat)→World→Prop) (B:Nat) (hJ:AbidesFrom B J)
  (hY:∀ pre x W,J pre W→pre.length < n→YieldAt Fence.wide 7 Tryz.prog l (recA x) W fun e W'=>(e=.returned (.bool true)∧J (pre++[x]) W'∧(Below w0.heap.size W W'∧(Boxed W bx 26 (.slice (some ⟨b,o,none⟩) n c)→Boxed W' bx 26 (.slice (some ⟨b,o,none⟩) n c))))∨(e=.returned (.bool false)∧Jx (pre++[x]) W'))
  (W:World) (hW:Below w0.heap.size w0 W) (hc:Boxed W bx 26 (.slice (some ⟨b,o,none⟩) n c)) (h0:J [] W) :
  CallsIn Fence.wide 8 Tryz.prog 119 #[.func (.yield l) #[] #[],.pointer (some ⟨bx,0,none⟩)] W fun e W'=>(∃ v,e=.returned v)∧((∃ xs,xs=R.recs n bs 0 0∧J xs W')∨(∃ pre,True∧Jx pre W')):=by
 have HX:=Lib.hid hx
 have HRL:=Lib.hid (R.recs_len n bs 0 0)
 clear hx
 refine callsIn_of_wp Tryz.func119 rfl trivial ?_ rfl
 simp only[Tryz.ntmps119,List.size_toArray,List.length_cons,List.length_nil,Nat.reduceAdd,Nat.reduceSub,Array.replicate_succ,Array.replicate_zero,List.push_toArray,List.append_toArray,List.nil_append,List.cons_append]
 gi_wp2
 gi_loopw [3,4] (fun x y wr=>∃ (pre:List (R.Rc × Nat)) (f at_:Nat),x=.int .i64 at_∧y=.int .i64 pre.length∧R.recs n bs 0 0=pre++R.recs f (bs.drop at_) at_ pre.length∧at_≤n∧n≤f+at_∧J pre wr∧Below w0.heap.size w0 wr∧Boxed wr bx 26 (.slice (some ⟨b,o,none⟩) n c)) (fun x _ _=>n - (intOf x).toNat)
 case atStart =>
  exact⟨[],n,0,rfl,rfl,rfl,Nat.zero_le _,Nat.le_refl _,h0,hW,hc⟩
 case round =>
  obtain⟨pre,f,at_,rfl,rfl,hxs,hat,hf,hJs,hBw,hbx⟩:=hrel
  have hcb:=hbx.cell
  have HBW:=Lib.hid hBw
  have HBX:=Lib.hid hbx
  have HJS:=Lib.hid hJs
  clear hJs hbx hc h0 hW
  by_cases hlt:at_=n
  ·have hnil:bs.drop at_=[]:=List.drop_eq_nil_of_le (by omega)
   have HE:Hid (pre=R.recs n bs 0 0):=Lib.hid (by
    rw[hxs,hnil]
    cases f with
    | zero=>simp [R.recs]
    | succ f=>rw[show R.recs (f+1) [] at_ pre.length=[] from if_pos (.inr (.inl rfl)),List.append_nil])
   have hai:(at_:Int)≤c:=by omega
   have hz:n - at_=0:=by omega
   clear hxs hnil hBw HRL
   gi_wp2_with fail
   all_goals
    try rw[hz]
    refine⟨trivial,(callsIn_wide.2 (rdec0_any _ _ _)).mono ?_⟩
    rintro e w1 ⟨rfl,hb1⟩
    have hg1:wr.grownBy w1 none:=⟨hb1.os,hb1.tape,hb1.output,hb1.size,fun k hk _=>hb1.block k hk⟩
    have HG:=Lib.hid (hg1.trans (World.grownBy_alloc w1 (.cells #[.int .i64 0,.int .i64 0,.int .i64 0,.string ⟨#[]⟩] 89) none))
    have HJ2:=Lib.hid (hJ pre wr _ none HJS.out HG.out (fun r hr=>by cases hr))
    have HK:=Lib.hid (Blk.new w1 #[.int .i64 0,.int .i64 0,.int .i64 0,.string ⟨#[]⟩] 89)
    clear hb1 hg1 HG
    unfold recV R.Rc.zero
    gi_wp2
    refine⟨fun _ h=>(by cases h),?_⟩
    gi_wp2
    refine bodyPost_ret (results_none rfl _ _ _) rfl ?_
    exact⟨⟨_,rfl⟩,.inl ⟨pre,HE.out,HJ2.out⟩⟩
  have HDEC:=Lib.hid (rdec_any (some ⟨b,o+at_,none⟩) (n - at_) (c - at_) (bs.drop at_) wr (by rw[List.length_drop,hl]) (by omega) (by omega) ((HX.out.below hBw).from_ (k:=at_) (by omega)))
  have hun:=R.recs_unroll (f:=f) (l:=bs.drop at_) (by rw[List.length_drop];omega) at_ pre.length
  have hle:=R.dec_le (bs.drop at_)
  rw[List.drop_drop]at hun
  rw[List.length_drop,hl]at hle
  rw[hun]at hxs
  clear hun
  generalize R.dec (bs.drop at_)=D at *
  obtain⟨⟨sq,op,no,id⟩,k,cd⟩:=D
  dsimp only at hxs hle
  have HXS:=Lib.hid hxs
  clear hxs
  have hai:(at_:Int)≤c:=by omega
  have hne:¬ c=at_:=by omega
  gi_wp2_with fail
  refine⟨trivial,(callsIn_wide.2 HDEC.out).mono ?_⟩
  rintro e w1 ⟨rfl,hb1⟩
  have hg1:wr.grownBy w1 none:=⟨hb1.os,hb1.tape,hb1.output,hb1.size,fun k hk _=>hb1.block k hk⟩
  have HG:=Lib.hid (hg1.trans (World.grownBy_alloc w1 (.cells #[.int .i64 sq,.int .i64 op,.int .i64 no,.string id] 89) none))
  have HJ2:=Lib.hid (hJ pre wr _ none HJS.out HG.out (fun r hr=>by cases hr))
  have HB2:=Lib.hid (below_then HBW.out.size HBW.out ((hb1:Below wr.heap.size wr w1).alloc (o:=.cells #[.int .i64 sq,.int .i64 op,.int .i64 no,.string id] 89) hb1.size))
  have HBX2:=Lib.hid ((HBX.out.kept hg1 (by simp)).alloc (.cells #[.int .i64 sq,.int .i64 op,.int .i64 no,.string id] 89))
  have HK:=Lib.hid (Blk.new w1 #[.int .i64 sq,.int .i64 op,.int .i64 no,.string id] 89)
  obtain⟨q0,q1,q2,q3⟩:=HK.out.cells4
  clear hb1 hg1 HG HDEC HBX HBW hBw HJS hcb
  unfold recV
  dsimp only
  by_cases hcd:cd=0
  rotate_left
  ·have hcb:(cd != 0)=true:=bne_iff_ne.2 hcd
   have HE:Hid (pre=R.recs n bs 0 0):=Lib.hid (by rw[HXS.out,if_pos (.inl hcd),List.append_nil])
   gi_wp2
   refine⟨fun _ h=>(by cases h),?_⟩
   gi_wp2
   refine bodyPost_ret (results_none rfl _ _ _) rfl ?_
   exact⟨⟨_,rfl⟩,.inl ⟨pre,HE.out,HJ2.out⟩⟩
  subst hcd
  by_cases hk:k=0
  ·have HE:Hid (pre=R.recs n bs 0 0):=Lib.hid (by rw[HXS.out,if_pos (.inr (.inl hk)),List.append_nil])
   subst hk
   gi_wp2
   refine⟨fun _ h=>(by cases h),?_⟩
   gi_wp2
   refine bodyPost_ret (results_none rfl _ _ _) rfl ?_
   exact⟨⟨_,rfl⟩,.inl ⟨pre,HE.out,HJ2.out⟩⟩
  have hki:¬ (k:Int)=0:=by omega
  have hkb:((k:Int)==0)=false:=beq_eq_false_iff_ne.2 hki
  by_cases hsq:sq=pre.length
  rotate_left
  ·have HE:Hid (pre=R.recs n bs 0 0):=Lib.hid (by rw[HXS.out,if_pos (.inr (.inr hsq)),List.append_nil])
   have hsb:(sq != (pre.length:Int))=true:=bne_iff_ne.2 hsq
   gi_wp2
   refine⟨fun _ h=>(by cases h),?_⟩
   gi_wp2
   refine bodyPost_ret (results_none rfl _ _ _) rfl ?_
   exact⟨⟨_,rfl⟩,.inl ⟨pre,HE.out,HJ2.out⟩⟩
  subst hsq
  have hsb:((pre.length:Int) != (pre.length:Int))=false:=by simp
  have HXT:Hid (R.recs n bs 0 0=(pre++[(⟨pre.length,op,no,id⟩,at_+k)])++R.recs (f - 1) (bs.drop (at_+k)) (at_+k) (pre.length+1)):=Lib.hid (by
   rw[HXS.out,if_neg (by rintro (h | h | h);exact h rfl;exact hk h;exact h rfl),List.append_assoc]
   rfl)
  have hpl:pre.length < n:=by
   have h1:=HRL.out
   rw[HXT.out]at h1
   simp only[List.length_append,List.length_singleton]at h1
   omega
  obtain⟨fn,tmps,assign,body,hy,hR⟩:=hY pre (⟨pre.length,op,no,id⟩,at_+k) _ HJ2.out hpl
  unfold recA recV at hy
  dsimp only at hy
  rw[Int.natCast_add]at hy
  have hpi:(pre.length:Int) < 1073741824:=by omega
  clear HXS
  gi_wp2
  refine hR.mono ?_
  rintro e W3 (⟨rfl,hJ3,hB3,hX3⟩ | ⟨rfl,hJx3⟩)
  ·have HB3:=Lib.hid (HB2.out.trans hB3)
   have HX3:=Lib.hid (hX3 HBX2.out)
   have hkn:at_+k≤n:=by omega
   gi_wp2
   go_roundw
   case rel=>exact⟨pre++[(⟨pre.length,op,no,id⟩,at_+k)],f - 1,at_+k,by go_num,by rw[List.length_append,List.length_singleton];go_num,by rw[List.length_append,List.length_singleton];exact HXT.out,hkn,by omega,hJ3,HB3.out,HX3.out⟩
   case measure=>simp [intOf];omega
  ·gi_wp2
   refine bodyPost_ret (results_none rfl _ _ _) rfl ?_
   exact⟨⟨_,rfl⟩,.inr ⟨_,trivial,hJx3⟩⟩
def KeepR (n₀ bx:Nat) (v:Value) (W W':World):Prop:=Below n₀ W W'∧(Boxed W bx 26 v→Boxed W' bx 26 v)
theorem recs1_stops (bx:Nat) (bs:List UInt8) (b o n c:Nat) (hl:bs.length=n) (hnc:n≤c) (hn:n≤1073741824) (w0 w:World) (hx:Rd w0 (some ⟨b,o,none⟩) n 1 (bcells bs)) (hw:Below w0.heap.size w0 w) (hbx:Boxed w bx 26 (.slice (some ⟨b,o,none⟩) n c)) :
  SeqStopsK Fence.wide 8 Tryz.prog 119 #[.pointer (some ⟨bx,0,none⟩)] recA (KeepR w0.heap.size bx (.slice (some ⟨b,o,none⟩) n c)) (fun ys=>ys=R.recs n bs 0 0) (fun _=>True) n w:=fun l J Jx W hW hJ _ hY h0 =>
 recs1_any l bx bs b o n c hl hnc hn w0 hx J Jx _ hJ hY W (hw.trans (hW.mono hw.size)) ((hW.block bx hbx.lt).trans hbx) h0
def R.lastAt (l:List (R.Rc × Nat)):Nat:=(l.getLast?.map (·.2)).getD 0
theorem R.lastAt_snoc (l:List (R.Rc × Nat)) (x:R.Rc × Nat):R.lastAt (l++[x])=x.2:=by
 unfold R.lastAt
 rw[List.getLast?_concat]
 rfl
def RepI (w:World) (b o n c:Nat) (pre:List (R.Rc × Nat)) (W:World):Prop :=
 ((∃ v,Boxed W w.heap.size 81 v∧W.ownsRow w.heap.size 89 4 v pre.length (rcells (pre.map (·.1)))∧True) ∧
  (Boxed W (w.heap.size+1) 3 (.int .i64 (R.lastAt pre))∧Boxed W (w.heap.size+2) 26 (.slice (some ⟨b,o,none⟩) n c)))∧Below w.heap.size w W
theorem repI_own {w:World} {b o n c B:Nat} (hB:w.heap.size≤B):OwnFrom B (RepI w b o n c) :=
 OwnFrom.and (OwnFrom.and (Own.from (holdsRow_own w.heap.size w.heap.size 81 89 4 (fun pre:List (R.Rc × Nat)=>pre.length) (fun pre=>rcells (pre.map (·.1))) (fun _ _=>True)) _)
  (OwnFrom.and (Own.from (boxed_own (w.heap.size+1) 3 (fun pre:List (R.Rc × Nat)=>.int .i64 (R.lastAt pre))) _) (Own.from (boxed_own (w.heap.size+2) 26 (fun _=>.slice (some ⟨b,o,none⟩) n c)) _))) (ownFrom_below (Nat.le_refl _) hB)
def RepA (w:World) (b o n c:Nat) (x:R.Rc × Nat) (a:Act) (W:World):Prop :=
 ∃ k,a={ tmps:=#[.slice (some ⟨b,o,none⟩) n c,undef,.slice none 0 0,.int .i64 0,.pointer (some ⟨w.heap.size,0,none⟩),.pointer (some ⟨w.heap.size+1,0,none⟩),.pointer (some ⟨k,0,none⟩),.int .i64 x.2,.slice (some ⟨b,o,none⟩) n c,.func (.func 119) #[] #[.pointer (some ⟨w.heap.size+1+1,0,none⟩)],recV x.1,.int .i64 x.2,undef,undef,undef,undef,undef,undef,undef],defers:=[] } ∧
  Blk W k #[.int .i64 x.1.seq,.int .i64 x.1.op,.int .i64 x.1.no,.string x.1.id] 89
theorem repA_own {w:World} {b o n c B:Nat} (x:R.Rc × Nat) (a:Act):OwnFrom B (fun (_:Unit) W=>RepA w b o n c x a W):=by
 rintro _ W W' row ⟨k,rfl,hk⟩ hg hr
 refine⟨k,rfl,hk.keptG hg (fun e=>?_)⟩
 obtain⟨_,ob,ho,hc⟩:=hr k e
 rw[show W.heap[k]?=_ from hk]at ho
 cases ho
 cases hc
def RetRep (w:World) (x:List R.Rc × Nat) (e:Ending) (w':World):Prop :=
 ∃ A c,e=.returned (.tuple #[.slice A x.1.length c,.int .i64 x.2])∧Row w' w.heap.size 89 4 A x.1.length c (rcells x.1)∧Below w.heap.size w w'
set_option maxRecDepth 100000 in
set_option maxHeartbeats 4000000 in
theorem replay_any (A:Option Addr) (n c:Nat) (bs:List UInt8) (w:World) (hl:bs.length=n) (hnc:n≤c) (hn:n≤1073741824) (hA:A=none→c=0) (hx:Rd w A n 1 (bcells bs)) :
  Calls Tryz.prog 64 #[.slice A n c] w (RetRep w (R.replay bs)):=by
 by_cases h0:n=0
 ·obtain rfl:bs=[]:=List.eq_nil_of_length_eq_zero (by omega)
  subst h0
  refine (replay0_any A c hA w).mono ?_
  rintro e w' ⟨rfl,hb⟩
  exact⟨none,0,rfl,Row.none_ _ _ _ _,hb⟩
 obtain⟨b,o,rfl,_,_⟩:=hx.2 (by omega)
 have HREP:Hid (R.replay bs=((R.recs n bs 0 0).map (·.1),R.lastAt (R.recs n bs 0 0))):=Lib.hid (by rw[← hl];rfl)
 obtain⟨i0,hi0,hz0,hz1,hz2⟩:=info_parts Tryz.infoRec
 refine (callsIn_wide (n:=9)).1 ?_
 refine callsIn_of_wp_marks Tryz.func64 rfl trivial ?_ rfl
 simp only[Tryz.ntmps64,List.size_toArray,List.length_cons,List.length_nil,Nat.reduceAdd,Nat.reduceSub,Array.replicate_succ,Array.replicate_zero,List.push_toArray,List.append_toArray,List.nil_append,List.cons_append]
 gi_wp2_with fail
 refine⟨trivial,(callsIn_wide.2 (srecords_any _ _ _ _)).mono ?_⟩
 rintro e w' ⟨rfl,rfl⟩
 gi_wp2_with fail
 obtain⟨W0,hW0⟩:∃ W0,((w.alloc (.cells #[.slice none 0 0] 81)).alloc (.cells #[.int .i64 0] 3)).alloc (.cells #[.slice (some ⟨b,o,none⟩) n c] 26)=W0:=⟨_,rfl⟩
 have hs0:W0.heap.size=w.heap.size+3:=by rw[← hW0];simp only[World.size_alloc]
 have bO:Boxed W0 w.heap.size 81 (.slice none 0 0):=by rw[← hW0];exact ((Boxed.new w 81 (.slice none 0 0)).alloc _).alloc _
 have bN:Boxed W0 (w.heap.size+1) 3 (.int .i64 0):=by
  have:=Boxed.new (w.alloc (.cells #[.slice none 0 0] 81)) 3 (.int .i64 0)
  rw[World.size_alloc]at this
  rw[← hW0]
  exact this.alloc _
 have bX:Boxed W0 (w.heap.size+2) 26 (.slice (some ⟨b,o,none⟩) n c):=by
  have:=Boxed.new ((w.alloc (.cells #[.slice none 0 0] 81)).alloc (.cells #[.int .i64 0] 3)) 26 (.slice (some ⟨b,o,none⟩) n c)
  rw[World.size_alloc,World.size_alloc]at this
  rw[← hW0]
  exact this
 have hB0:Below w.heap.size w W0:=by
  rw[← hW0]
  exact (((Below.refl _ w).alloc (Nat.le_refl _) _).alloc (by simp only[World.size_alloc];omega) _).alloc (by simp only[World.size_alloc];omega) _
 rw[hW0]
 have hI0:RepI w b o n c [] W0:=⟨⟨⟨_,bO,World.ownsRow_nil _ _ _ _,trivial⟩,bN,bX⟩,hB0⟩
 clear hW0 bO bN
 refine wpIn_rangeFunc_ownH rfl (by decide) (gf:=119) (lb:=#[.pointer (some ⟨w.heap.size+2,0,none⟩)]) rfl trivial (enters_of Tryz.func119 (by kernel_rfl) rfl)
  (recs1_stops (w.heap.size+2) bs b o n c hl hnc hn w W0 hx hB0 bX)
  (fun h k=>⟨h.1.trans k.1,fun q=>k.2 (h.2 q)⟩)
  (fun W l ob ob' hlb hl1 hc1 hw1=>⟨belowK_b (w:=W0) (by omega) W l ob ob' hlb hl1 hc1 hw1,fun q=>(World.putObj_heap_other (by omega)).trans q⟩)
  (Below.refl _ _) (fun _=>rfl)
  (RepI w b o n c) (fun _ _ _=>False) (repI_own (by omega)) (fun _ _ _ _ _ hs _ _=>hs) hI0 (RepA w b o n c) (fun x a=>repA_own x a) ?assign ?body ?done ?stop
 case assign =>
  intro l pre x W K hI hK
  unfold recA recV
  gi_wp2
  exact hK _ _ ((KeepsOthers.alloc W _).from _) ⟨(Below.refl _ W).alloc hI.2.size _,fun q=>q.alloc _⟩ ((repI_own (Nat.le_refl _)).alloc _ hI) ⟨W.heap.size,rfl,Blk.new W _ _⟩
 case body =>
  rintro l pre x a' W _ _ ⟨⟨⟨v,hv,hrow,_⟩,hN,hX⟩,hB⟩ ⟨k,rfl,hk⟩ hlt
  have hc:=hv.cell
  obtain⟨q0,q1,q2,q3⟩:=hk.cells4
  obtain⟨⟨sq,op,no,id⟩,at_⟩:=x
  dsimp only at hk q0 q1 q2 q3 ⊢
  have HW:=Lib.hid hB.size
  have HROW:=Lib.hid hrow
  have HV:=Lib.hid hv
  have HN:=Lib.hid hN
  have HX:=Lib.hid hX
  have HB:=Lib.hid hB
  clear hrow hv hN hX hB hk
  unfold recV
  gi_wp2_with (gi_at_builtin;refine wpListIn_append_own _ rfl _ _ 81 rfl w.heap.size 89 i0 (.agg #[.int .i64 0,.int .i64 0,.int .i64 0,.string ⟨#[]⟩]) 4 40 Tryz.underlying81 hi0 hz0 hz1 hz2 rfl (by decide) _ _ _ rfl (HROW.out.alloc _) ⟨W.heap.size,0,none⟩ 1 1 [.int .i64 sq,.int .i64 op,.int .i64 no,.string id] rfl rfl ((Rd.newRow W 89 #[.int .i64 sq,.int .i64 op,.int .i64 no,.string id] 1 4 rfl).cells _ rfl (by omega)) (by simp [Value.oneCell']) (by simp only[maxLen];omega) (by omega) (by have:=HW.out;simp only[World.size_alloc];omega) ?_;intro v' w1 hown' hgrow _;obtain⟨g',cap',rfl⟩:=ownsRow_succ hown';obtain⟨hv1,hv2,hr2,hk2,hb2⟩:=HV.out.appended (by decide) HROW.out HW.out (Nat.le_refl _) hown' hgrow;have hc1:=hv1.cell;have hf1:=hv1.frozen;have hn1:=((HN.out.alloc _).kept hgrow (HN.out.not_row (by decide) HROW.out)).other (by omega:w.heap.size+1≠w.heap.size) (.slice (some ⟨g',0,none⟩) (pre.length+1) cap');have hx1:=((HX.out.alloc _).kept hgrow (HX.out.not_row (by decide) HROW.out)).other (by omega:w.heap.size+2≠w.heap.size) (.slice (some ⟨g',0,none⟩) (pre.length+1) cap');have hnc:=hn1.cell;have hnf:=hn1.frozen)
  have hrc:rcells ((pre++[((⟨sq,op,no,id⟩:R.Rc),at_)]).map (·.1))=rcells (pre.map (·.1))++[.int .i64 sq,.int .i64 op,.int .i64 no,.string id]:=by rw[List.map_append,rcells_append];rfl
  refine⟨(hk2.from _).trans ((KeepsOthers.setCell _ _ _).from _),⟨hb2.setCell (p:=⟨w.heap.size+1,0,none⟩) (by show w.heap.size≤w.heap.size+1;omega) _,fun _=>hx1.other (by omega) _⟩,⟨⟨_,hv2.other (by omega) _,?_,trivial⟩,?_,hx1.other (by omega) _⟩,HB.out.trans (hb2.setCell (p:=⟨w.heap.size+1,0,none⟩) (by show w.heap.size≤w.heap.size+1;omega) _)⟩
  ·rw[hrc,List.length_append,List.length_singleton]
   exact hr2.kept (grownBy_setCell' _ _ _) (.inr (hn1.not_row (by decide) hr2).symm)
  ·rw[R.lastAt_snoc]
   exact hn1.set _
 case done =>
  rintro D ys W hD rfl ⟨⟨⟨v,hv,hrow,_⟩,hN,hX⟩,hB⟩ hK
  have hc:=hv.cell
  have hn2:=hN.cell
  obtain⟨A',c',rfl,hr⟩:∃ A' c',v=.slice A' (R.recs n bs 0 0).length c'∧W.ownsRow w.heap.size 89 4 (.slice A' (R.recs n bs 0 0).length c') (R.recs n bs 0 0).length (rcells ((R.recs n bs 0 0).map (·.1))):=by
   rcases hrow.2 with ⟨rfl,h0⟩ | ⟨g,cap,cur,rfl,r⟩
   ·exact⟨none,0,by rw[h0],by rw[h0]at hrow ⊢;exact hrow⟩
   ·exact⟨some ⟨g,0,none⟩,cap,rfl,hrow⟩
  have HROW:=Lib.hid hr
  have HB:=Lib.hid hB
  have HS:=Lib.hid hs0
  clear hrow hr hv hN hX hB hs0 hI0 hB0 bX
  gi_wp2_with fail
  refine wpIn_wide.2 ?_
  go_region
  all_goals gi_wp2
  have hK2:W.drew.heap[D]?=some (.deferred (some [])):=hK
  refine⟨by simp,.inl ⟨_,_,rfl,run_takeDeferred hK2,?_⟩⟩
  refine⟨_,results_tmp2 rfl _ _ _,?_⟩
  rw[HREP.out]
  refine⟨A',c',by rw[List.length_map]<;>rfl,.inl ?_,HB.out.drew.trans (belowK_b (w:=w) (Nat.le_refl _) W.drew D _ _ (by have:=HS.out;omega) hK2 rfl rfl)⟩
  rw[List.length_map]
  exact ownsRow_putObj (W:=W.drew) HROW.out _ hK2 rfl
 case stop =>
  rintro D c pre W _ _ h _
  exact h.elim
end Go.Proofs.YtkempjcphpnocaaGreatDoor
