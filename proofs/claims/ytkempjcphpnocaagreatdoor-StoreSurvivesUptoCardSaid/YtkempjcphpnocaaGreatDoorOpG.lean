/- The walk of the store's Open over any disk (printed by gen/opg.py). Conditions: what the disk's steps ask; at most 4096 numbers; at most 2^19 records in the log. -/
import Derived.Test.YtkempjcphpnocaaGreatDoorZ23
namespace Go.Proofs.YtkempjcphpnocaaGreatDoor
open Go Go.RowKit Go.Maps
theorem tab_inserted {b:Nat} {t:D.NM} {n:Nat} {w:World} {nm:ByteArray} {no:Nat} (h:w.ownsMap Tryz.prog 9 S.intR b n ((S.datT t).put (D.key nm) (.lit (.int .i64 no)))):w.ownsMap Tryz.prog 9 S.intR b (D.put t nm no).length (S.datT (D.put t nm no)):=by
 unfold S.datT at h
 rw[D.datum_put (fun n=>n) t nm no]at h
 exact tab_tight h
theorem Went.turn {F F':Nat→Prop} {w w1 w2:World} {k:Nat} (h:Went F w F' w1) (hg:w1.grownBy w2 (some k)) (hk:w.heap.size≤k):Went F w F' w2 :=
 ⟨hg.os.trans h.os,hg.tape.trans h.tape,hg.output.trans h.output,Nat.le_trans h.size hg.size,fun i hi hn=>(hg.block i (Nat.lt_of_lt_of_le hi h.size) (fun e=>by cases e;omega)).trans (h.block i hi hn),h.foot⟩
theorem StAt.offT {B:Nat} {X:SM} {s:S.Sto} {w:World} {k:Nat} {t:TypeId} (h:StAt B X s w) (ht:Tag w k t) (h1:t≠71) (h2:t≠115) (h3:t≠78) (h4:t≠5) (h5:t≠118) (h6:t≠87) (h7:t≠4):¬ X.foot s k:=by
 rintro (hf | hf | hf | hf | hf)
 ·exact h.log.disk.off ht h1 h2 h3 h4 hf
 ·exact ht.ne h.log.blk.tag h5 hf
 ·exact ht.ne h.blk.tag h6 hf
 ·exact ht.map (ownsMap_tag h.tab) hf
 ·exact ht.ne (h.used.tag hf) h7 rfl
theorem R.replay_no (l:List UInt8):∀ r∈(R.replay l).1,0≤r.no:=by
 have h1:∀ l,0≤(R.dec l).1.no:=by
  intro l
  unfold R.dec
  split
  ·exact Int.le_refl _
  split
  ·exact Int.le_refl _
  split
  ·exact Int.le_refl _
  split
  ·exact Int.le_refl _
  split
  ·exact Int.le_refl _
  split
  ·exact Int.le_refl _
  ·exact Int.natCast_nonneg _
 have h2:∀ (f:Nat) (l:List UInt8) (a s:Nat),∀ x∈R.recs f l a s,0≤x.1.no:=by
  intro f
  induction f with
  | zero=>intro l a s x h;cases h
  | succ f ih =>
   intro l a s x h
   rw[R.recs]at h
   split at h
   ·cases h
   ·rcases List.mem_cons.1 h with rfl | h
    ·exact h1 l
    ·exact ih _ _ _ x h
 intro r hr
 obtain⟨x,hx,rfl⟩:=List.mem_map.1 hr
 exact h2 _ _ _ _ x hx
theorem logOpen_list (d:D.Dsk):(S.logOpen d).2.2.1=[]∨(S.logOpen d).2.2.1=(R.replay ((if S.has d.list S.newN then d.remove S.newN else (d,0)).1.read S.logN).1).1:=by
 unfold S.logOpen
 dsimp only
 generalize (if S.has d.list S.newN=true then d.remove S.newN else (d,0))=x
 generalize x.1.read S.logN=r
 generalize (if r.2=90 then ((S.steps x.1 S.firsts).1,(S.steps x.1 S.firsts).2.2) else (x.1,r.2))=y
 generalize R.replay r.1=p
 generalize S.rewrite y.1 0 p.1=z
 split
 ·exact .inl rfl
 split
 ·exact .inl rfl
 split
 ·split
  ·exact .inl rfl
  ·exact .inr rfl
 ·exact .inr rfl
theorem logOpen_count (d:D.Dsk):(S.logOpen d).2.1=(S.logOpen d).2.2.1.length:=by
 unfold S.logOpen
 dsimp only
 generalize (if S.has d.list S.newN=true then d.remove S.newN else (d,0))=x
 generalize x.1.read S.logN=r
 generalize (if r.2=90 then ((S.steps x.1 S.firsts).1,(S.steps x.1 S.firsts).2.2) else (x.1,r.2))=y
 generalize R.replay r.1=p
 generalize S.rewrite y.1 0 p.1=z
 split
 ·rfl
 split
 ·rfl
 split
 ·split
  ·rfl
  ·rfl
 ·rfl
theorem S.rewrite_count (d:D.Dsk) (count:Nat) (list:List R.Rc):(S.rewrite d count list).2.1=count∨(S.rewrite d count list).2.1=list.length:=by
 unfold S.rewrite
 split
 ·exact .inl rfl
 split
 ·exact .inr rfl
 split
 ·exact .inl rfl
 ·exact .inl rfl
theorem logOpen_recs (d:D.Dsk):∀ r∈(S.logOpen d).2.2.1,0≤r.no∧r.id.size≤4096:=by
 intro r hr
 rcases logOpen_list d with h | h
 ·rw[h]at hr;cases hr
 ·rw[h]at hr;exact⟨R.replay_no _ r hr,R.replay_id _ r hr⟩
theorem logOpen_len (d:D.Dsk) (hrl:(R.replay ((if S.has d.list S.newN then d.remove S.newN else (d,0)).1.read S.logN).1).1.length≤524288):(S.logOpen d).2.2.1.length≤524288:=by
 rcases logOpen_list d with h | h
 ·rw[h];exact Nat.zero_le _
 ·rw[h];exact hrl
namespace S
def told (x:D.Dsk × Nat × List R.Rc × Int) (n:Nat):Sto:=⟨x.1,x.2.1,(tabOf x.2.2.1).filter (sound x.1 n),marks n ((tabOf x.2.2.1).filter (sound x.1 n))⟩
def mended (x:D.Dsk × Nat × List R.Rc × Int) (n:Nat):Sto × Int:=if (told x n).tab.length < (tabOf x.2.2.1).length then (told x n).rewrite else (told x n,0)
theorem open_eq (d:D.Dsk) {n:Nat} (hn:n≤4096):open_ d n=if (logOpen d).2.2.2≠0 then ((logOpen d).1,none,(logOpen d).2.2.2) else if (mended (logOpen d) n).2≠0 then ((mended (logOpen d) n).1.d,none,(mended (logOpen d) n).2) else
  (({ (mended (logOpen d) n).1 with d:=sweep (mended (logOpen d) n).1.d (told (logOpen d) n).tab }:Sto).tidy.d,some ({ (mended (logOpen d) n).1 with d:=sweep (mended (logOpen d) n).1.d (told (logOpen d) n).tab }:Sto).tidy,0):=by
 unfold open_
 rw[if_neg (by omega)]
 rfl
end S
def RetOS (B:Nat) (M:DM) (d:D.Dsk) (w:World) (x:D.Dsk × Option S.Sto × Int) (e:Ending) (w':World):Prop :=
 (x.2.1=none∧x.2.2≠0∧e=.returned (.tuple #[.pointer none,.int .i64 x.2.2])∧∃ M',DkAt B M' x.1 w'∧Went (M.foot d) w (M'.foot x.1) w'∧M'.d=M.d) ∨
 (∃ s X,x.2.1=some s∧x.2.2=0∧x.1=s.d∧e=.returned (.tuple #[.pointer (some ⟨X.st,0,none⟩),.int .i64 0])∧StAt B X s w'∧Went (M.foot d) w (X.foot s) w'∧X.M.d=M.d)
set_option maxRecDepth 100000 in
set_option maxHeartbeats 8000000 in
theorem sopen_any (B:Nat) (M:DM) (d:D.Dsk) (m n:Nat) (w0 w:World) (h:DkAt B M d w) (hf:D.Fit m d) (hm:m≤50000000) (hn:n≤4096) (ht:Tabs w0) (hw0:Below w0.heap.size w0 w) (hB:w0.heap.size≤B)
  (hrl:(R.replay ((if S.has d.list S.newN then d.remove S.newN else (d,0)).1.read S.logN).1).1.length≤524288) :
  Calls Tryz.prog 8 #[.pointer (some ⟨M.d,0,none⟩),.int .i64 n] w (RetOS B M d w (S.open_ d n)):=by
 have HLO:=Lib.hid (logOpen_any B M d m w h hf (by omega) hrl)
 have HT0:=Lib.hid ht
 have HW0:=Lib.hid hw0
 have HUN:=Lib.hid (fun k (hk:M.foot d k)=>Nat.le_trans hB (h.under hk))
 have HFL:=Lib.hid (S.logOpen_fit hf)
 have HRN:Hid (∀ r∈(S.logOpen d).2.2.1,0≤r.no∧r.id.size≤4096):=Lib.hid (logOpen_recs d)
 have HRL:Hid ((S.logOpen d).2.2.1.length≤524288):=Lib.hid (logOpen_len d hrl)
 have HCN:Hid ((S.logOpen d).2.1≤524288):=Lib.hid (by rw[logOpen_count];exact HRL.out)
 obtain⟨Lo,hLo⟩:∃ Lo,S.logOpen d=Lo:=⟨_,rfl⟩
 obtain⟨G,hG⟩:∃ G,S.open_ d n=G:=⟨_,rfl⟩
 have HG:Hid (G=if Lo.2.2.2≠0 then (Lo.1,none,Lo.2.2.2) else if (S.mended Lo n).2≠0 then ((S.mended Lo n).1.d,none,(S.mended Lo n).2) else
  (({ (S.mended Lo n).1 with d:=S.sweep (S.mended Lo n).1.d (S.told Lo n).tab }:S.Sto).tidy.d,some ({ (S.mended Lo n).1 with d:=S.sweep (S.mended Lo n).1.d (S.told Lo n).tab }:S.Sto).tidy,0)):=Lib.hid (by
  rw[← hG,← hLo]
  exact S.open_eq d hn)
 rw[hLo]at HLO HFL HRN HRL HCN
 rw[hG]
 obtain⟨C,hC,hmk⟩:=makeBools n (by omega)
 have hmm:=@run_makeMap Tryz.prog
 have g0:¬ (n:Int) < 0:=by omega
 have g1:¬ (n:Int) > 4096:=by omega
 clear h hf ht hw0 hrl hLo hG
 go_enter Tryz.func8,Tryz.ntmps8
 go_wp2_with fail
 refine HLO.out.mono ?_
 rintro e w1 (⟨hne,rfl,M1,hd1,hw1,hm1⟩ | ⟨he0,l,M1,A1,c1,rfl,hl1,hw1,hm1,hr1⟩)
 ·have hnb:(Lo.2.2.2 != 0)=true:=bne_iff_ne.2 hne
  have HE:Hid (G=(Lo.1,none,Lo.2.2.2)):=Lib.hid (HG.out.trans (if_pos hne))
  have HD1:=Lib.hid hd1
  have HW1:=Lib.hid hw1
  have HM1:=Lib.hid hm1
  clear hd1 hw1 hm1 HLO hmk hmm
  go_wp2
  go_ret2
  exact .inl ⟨by rw[HE.out],by rw[HE.out];exact hne,by rw[HE.out]<;>rfl,M1,by rw[HE.out];exact HD1.out,by rw[HE.out];exact HW1.out,HM1.out⟩
 have HG2:Hid (G=if (S.mended Lo n).2≠0 then ((S.mended Lo n).1.d,none,(S.mended Lo n).2) else
  (({ (S.mended Lo n).1 with d:=S.sweep (S.mended Lo n).1.d (S.told Lo n).tab }:S.Sto).tidy.d,some ({ (S.mended Lo n).1 with d:=S.sweep (S.mended Lo n).1.d (S.told Lo n).tab }:S.Sto).tidy,0)):=Lib.hid (HG.out.trans (if_neg (fun h=>h he0)))
 have HL1:=Lib.hid hl1
 have HW1:=Lib.hid hw1
 have HM1:=Lib.hid hm1
 have HR1:=Lib.hid hr1
 clear hl1 hw1 hm1 hr1 HLO HG he0
 go_upto_region 7 with fail
 obtain⟨W1,hW1⟩:∃ W1,w1.alloc (.map #[] 0)=W1:=⟨_,rfl⟩
 have hs1:W1.heap.size=w1.heap.size+1:=by rw[← hW1];exact World.size_alloc ..
 have hm0:W1.ownsMap Tryz.prog 9 S.intR w1.heap.size 0 (.map []):=by rw[← hW1];exact World.ownsMap_made w1 Tryz.prog 9 S.intR
 have hb1:Below w1.heap.size w1 W1:=by rw[← hW1];exact (Below.refl _ _).alloc (Nat.le_refl _) _
 rw[hW1]
 obtain⟨W2,hW2⟩:∃ W2,W1.alloc (.cells C 4)=W2:=⟨_,rfl⟩
 have hs2:W2.heap.size=w1.heap.size+1+1:=by rw[← hW2,← hs1];exact World.size_alloc ..
 have hg2:Blk W2 (w1.heap.size+1) C 4:=by rw[← hW2,← hs1];exact Blk.new W1 _ _
 have hb2:Below W1.heap.size W1 W2:=by rw[← hW2];exact (Below.refl _ _).alloc (Nat.le_refl _) _
 rw[hW2]
 obtain⟨W3,hW3⟩:∃ W3,W2.alloc (.cells #[.pointer (some ⟨M.d,0,none⟩),.pointer (some ⟨l,0,none⟩),.map (some w1.heap.size),.slice (some ⟨w1.heap.size+1,0,none⟩) n n] 87)=W3:=⟨_,rfl⟩
 have hk3:Blk W3 (w1.heap.size+1+1) #[.pointer (some ⟨M.d,0,none⟩),.pointer (some ⟨l,0,none⟩),.map (some w1.heap.size),.slice (some ⟨w1.heap.size+1,0,none⟩) n n] 87:=by rw[← hW3,← hs2];exact Blk.new W2 _ _
 have hb3:Below W2.heap.size W2 W3:=by rw[← hW3];exact (Below.refl _ _).alloc (Nat.le_refl _) _
 rw[hW3]
 have hb23:=below_then hb2.size hb2 hb3
 have hb13:=below_then hb1.size hb1 hb23
 have hmk3:W3.ownsMap Tryz.prog 9 S.intR w1.heap.size 0 (.map []):=hm0.kept (show W1.grownBy W3 none from⟨hb23.os,hb23.tape,hb23.output,hb23.size,fun k hk _=>hb23.block k hk⟩) (by simp)
 have hg3:Blk W3 (w1.heap.size+1) C 4:=hg2.below hb3
 obtain⟨hst,hwt⟩:=StAt.new HL1.out hb13 (tb:=w1.heap.size) (g:=w1.heap.size+1) (st:=w1.heap.size+1+1) (n:=n) (Nat.le_refl _) (by omega) (by omega) hmk3 hC (S.marks_len n []) hn hg3 (by rw[HM1.out];exact hk3)
 have HS3:=Lib.hid hst
 have HW3:=Lib.hid (HW1.out.trans hwt)
 have HR3:=Lib.hid (HR1.out.below hb13)
 clear hmk hst hwt hg3 hmk3 hb13 hb23 hb3 hk3 hb2 hg2 hs2 hb1 hm0 hs1 hW1 hW2 hW3 HL1 HW1 hC g0 g1 HR1 hmm
 obtain⟨X,hX⟩:∃ X:SM,X=⟨M1,w1.heap.size+1+1,l,w1.heap.size,some ⟨w1.heap.size+1,0,none⟩,n⟩:=⟨_,rfl⟩
 rw[← hX]at HS3 HW3
 have e1:w1.heap.size+1+1=X.st:=by rw[hX]
 have e2:l=X.lg:=by rw[hX]
 have e3:M1=X.M:=by rw[hX]
 rw[e1,e2]
 rw[e3]at HM1
 clear hX e1 e2 e3
 obtain⟨rs,hrs⟩:∃ rs,Lo.2.2.1=rs:=⟨_,rfl⟩
 rw[hrs]at HRN HRL HR3 ⊢
 have HRS:=Lib.hid hrs
 clear hrs
 generalize w1.heap.size=tbo at *
 go_wp2
 go_loopw [46] (fun i wr=>∃ j:Nat,j≤rs.length∧i=.int .i64 j∧StAt B X ⟨Lo.1,Lo.2.1,S.tabOf (rs.take j),S.marks n []⟩ wr∧Went (M.foot d) w (X.foot ⟨Lo.1,Lo.2.1,S.tabOf (rs.take j),S.marks n []⟩) wr∧Row wr w.heap.size 89 4 A1 rs.length c1 (rcells rs)) (fun i _=>rs.length - (intOf i).toNat)
 case atStart=>exact⟨0,Nat.zero_le _,rfl,HS3.out,HW3.out,HR3.out⟩
 case round =>
  obtain⟨j,hj,rfl,hst,hwt,hrow⟩:=hrel
  obtain⟨wo,rfl⟩:∃ wo:World,wo=wr:=⟨_,rfl⟩
  have HST:=Lib.hid hst
  have HWT:=Lib.hid hwt
  have HROW:=Lib.hid hrow
  have hrl9:=HRL.out
  by_cases hlt:j < rs.length
  ·obtain⟨b,ob,rfl,hb,q0,q1,q2,q3⟩:=rd_rec4 hrow.rd hlt rfl
   obtain⟨hno,hid⟩:=HRN.out _ (List.getElem_mem hlt)
   have HNX:=Lib.hid (S.tabOf_next hlt)
   generalize rs[j]'hlt=r at *
   obtain⟨sq,op,no,id⟩:=r
   dsimp only at hno hid q0 q1 q2 q3
   obtain⟨N,rfl⟩:∃ N:Nat,no=N:=⟨no.toNat,by omega⟩
   have HK:=Lib.hid (Blk.new wo #[.int .i64 sq,.int .i64 op,.int .i64 N,.string id] 89)
   have hbe:Below wo.heap.size wo (wo.alloc (.cells #[.int .i64 sq,.int .i64 op,.int .i64 N,.string id] 89)):=(Below.refl _ _).alloc (Nat.le_refl _) _
   have HS2:=Lib.hid (HST.out.below hbe)
   have HW2:=Lib.hid (HWT.out.trans (Went.below hbe _))
   have HR2:=Lib.hid (HROW.out.below hbe)
   clear hst hwt hrow hbe hno HST HWT HROW
   go_upto_region 10 with fail
   generalize wo.alloc (.cells #[.int .i64 sq,.int .i64 op,.int .i64 N,.string id] 89)=w2 at *
   obtain⟨rb,hrb⟩:∃ rb,wo.heap.size=rb:=⟨_,rfl⟩
   rw[hrb]at HK ⊢
   clear hrb q0 q1 q2 q3
   obtain⟨k0,k1,k2,k3⟩:=HK.out.cells4
   by_cases hop:op=1
   ·subst hop
    go_upto_region 11 with fail
    refine wp_region_noPanic ?_
    refine HT.begin (n:=8) (S:=(fun u=>Below w2.heap.size w2 u)) (by kernel_rfl) ((Below.refl _ _).drew) ?_
    generalize w2.drew=wd at *
    refine HT.take 0 (.pointer (some ⟨X.st,0,none⟩)) rfl (by kernel_rfl) (fun _ _ _ h=>h) (Or.inl ⟨by rfl,?_⟩) (?_:HT _ _ _ _ _ _ _ ⟨#[_,_,_,_,_,_,_,_,_,_,_,_,_,_,_,_,_,_,_,_,_,_,_,_,_,_,_,_,_,_,_,_,_,_,_,_,_,_,_,_,_,_,_,_,_,_,_,_,_,_,_,_,_,.pointer (some ⟨X.st,0,none⟩),_,_,_,_,_,_,_,_,_,_,_,_,_,_,_,_,_,_,_,_,_,_,_,_,_,_,_,_,_,_,_,_,_,_,_,_,_,_,_,_,_,_,_,_,_,_,_,_,_,_,_,_,_,_,_,_,_,_,_,_,_,_,_,_,_,_,_,_,_,_,_,_,_,_,_,_,_,_,_,_,_,_,_,_,_,_,_,_,_,_,_,_,_,_],[]⟩ _)
    ·intro u hu
     go_simp
    refine HT.take 1 (.pointer (some ⟨X.st,0,none⟩)) rfl (by kernel_rfl) (fun _ _ _ h=>h) (Or.inl ⟨by rfl,?_⟩) (?_:HT _ _ _ _ _ _ _ ⟨#[_,_,_,_,_,_,_,_,_,_,_,_,_,_,_,_,_,_,_,_,_,_,_,_,_,_,_,_,_,_,_,_,_,_,_,_,_,_,_,_,_,_,_,_,_,_,_,_,_,_,_,_,_,.pointer (some ⟨X.st,0,none⟩),.pointer (some ⟨X.st,0,none⟩),_,_,_,_,_,_,_,_,_,_,_,_,_,_,_,_,_,_,_,_,_,_,_,_,_,_,_,_,_,_,_,_,_,_,_,_,_,_,_,_,_,_,_,_,_,_,_,_,_,_,_,_,_,_,_,_,_,_,_,_,_,_,_,_,_,_,_,_,_,_,_,_,_,_,_,_,_,_,_,_,_,_,_,_,_,_,_,_,_,_,_,_,_],[]⟩ _)
    ·intro u hu
     go_simp
    refine HT.take 2 (.pointer (some ⟨X.st,2,none⟩)) rfl (by kernel_rfl) (fun _ _ _ h=>h) (Or.inl ⟨by rfl,?_⟩) (?_:HT _ _ _ _ _ _ _ ⟨#[_,_,_,_,_,_,_,_,_,_,_,_,_,_,_,_,_,_,_,_,_,_,_,_,_,_,_,_,_,_,_,_,_,_,_,_,_,_,_,_,_,_,_,_,_,_,_,_,_,_,_,_,_,.pointer (some ⟨X.st,0,none⟩),.pointer (some ⟨X.st,0,none⟩),.pointer (some ⟨X.st,2,none⟩),_,_,_,_,_,_,_,_,_,_,_,_,_,_,_,_,_,_,_,_,_,_,_,_,_,_,_,_,_,_,_,_,_,_,_,_,_,_,_,_,_,_,_,_,_,_,_,_,_,_,_,_,_,_,_,_,_,_,_,_,_,_,_,_,_,_,_,_,_,_,_,_,_,_,_,_,_,_,_,_,_,_,_,_,_,_,_,_,_,_,_,_],[]⟩ _)
    ·intro u hu
     go_simp
    refine HT.take 3 (.map (some X.tb)) rfl (by kernel_rfl) (fun _ _ _ h=>h) (Or.inl ⟨by rfl,?_⟩) (?_:HT _ _ _ _ _ _ _ ⟨#[_,_,_,_,_,_,_,_,_,_,_,_,_,_,_,_,_,_,_,_,_,_,_,_,_,_,_,_,_,_,_,_,_,_,_,_,_,_,_,_,_,_,_,_,_,_,_,_,_,_,_,_,_,.pointer (some ⟨X.st,0,none⟩),.pointer (some ⟨X.st,0,none⟩),.pointer (some ⟨X.st,2,none⟩),.map (some X.tb),_,_,_,_,_,_,_,_,_,_,_,_,_,_,_,_,_,_,_,_,_,_,_,_,_,_,_,_,_,_,_,_,_,_,_,_,_,_,_,_,_,_,_,_,_,_,_,_,_,_,_,_,_,_,_,_,_,_,_,_,_,_,_,_,_,_,_,_,_,_,_,_,_,_,_,_,_,_,_,_,_,_,_,_,_,_,_,_,_,_,_],[]⟩ _)
    ·intro u hu
     obtain⟨y0,y1,y2,y3⟩:=(HS2.out.below hu).cells
     go_simp
    refine HT.take 4 (.pointer (some ⟨rb,3,none⟩)) rfl (by kernel_rfl) (fun _ _ _ h=>h) (Or.inl ⟨by rfl,?_⟩) (?_:HT _ _ _ _ _ _ _ ⟨#[_,_,_,_,_,_,_,_,_,_,_,_,_,_,_,_,_,_,_,_,_,_,_,_,_,_,_,_,_,_,_,_,_,_,_,_,_,_,_,_,_,_,_,_,_,_,_,_,_,_,_,_,_,.pointer (some ⟨X.st,0,none⟩),.pointer (some ⟨X.st,0,none⟩),.pointer (some ⟨X.st,2,none⟩),.map (some X.tb),.pointer (some ⟨rb,3,none⟩),_,_,_,_,_,_,_,_,_,_,_,_,_,_,_,_,_,_,_,_,_,_,_,_,_,_,_,_,_,_,_,_,_,_,_,_,_,_,_,_,_,_,_,_,_,_,_,_,_,_,_,_,_,_,_,_,_,_,_,_,_,_,_,_,_,_,_,_,_,_,_,_,_,_,_,_,_,_,_,_,_,_,_,_,_,_,_,_,_,_],[]⟩ _)
    ·intro u hu
     go_simp
    refine HT.take 5 (.string id) rfl (by kernel_rfl) (fun _ _ _ h=>h) (Or.inl ⟨by rfl,?_⟩) (?_:HT _ _ _ _ _ _ _ ⟨#[_,_,_,_,_,_,_,_,_,_,_,_,_,_,_,_,_,_,_,_,_,_,_,_,_,_,_,_,_,_,_,_,_,_,_,_,_,_,_,_,_,_,_,_,_,_,_,_,_,_,_,_,_,.pointer (some ⟨X.st,0,none⟩),.pointer (some ⟨X.st,0,none⟩),.pointer (some ⟨X.st,2,none⟩),.map (some X.tb),.pointer (some ⟨rb,3,none⟩),.string id,_,_,_,_,_,_,_,_,_,_,_,_,_,_,_,_,_,_,_,_,_,_,_,_,_,_,_,_,_,_,_,_,_,_,_,_,_,_,_,_,_,_,_,_,_,_,_,_,_,_,_,_,_,_,_,_,_,_,_,_,_,_,_,_,_,_,_,_,_,_,_,_,_,_,_,_,_,_,_,_,_,_,_,_,_,_,_,_,_],[]⟩ _)
    ·intro u hu
     obtain⟨k0,k1,k2,k3⟩:=(HK.out.below hu).cells4
     go_simp
    refine HT.take 6 (.pointer (some ⟨rb,2,none⟩)) rfl (by kernel_rfl) (fun _ _ _ h=>h) (Or.inl ⟨by rfl,?_⟩) (?_:HT _ _ _ _ _ _ _ ⟨#[_,_,_,_,_,_,_,_,_,_,_,_,_,_,_,_,_,_,_,_,_,_,_,_,_,_,_,_,_,_,_,_,_,_,_,_,_,_,_,_,_,_,_,_,_,_,_,_,_,_,_,_,_,.pointer (some ⟨X.st,0,none⟩),.pointer (some ⟨X.st,0,none⟩),.pointer (some ⟨X.st,2,none⟩),.map (some X.tb),.pointer (some ⟨rb,3,none⟩),.string id,.pointer (some ⟨rb,2,none⟩),_,_,_,_,_,_,_,_,_,_,_,_,_,_,_,_,_,_,_,_,_,_,_,_,_,_,_,_,_,_,_,_,_,_,_,_,_,_,_,_,_,_,_,_,_,_,_,_,_,_,_,_,_,_,_,_,_,_,_,_,_,_,_,_,_,_,_,_,_,_,_,_,_,_,_,_,_,_,_,_,_,_,_,_,_,_,_,_],[]⟩ _)
    ·intro u hu
     go_simp
    refine HT.take 7 (.int .i64 N) rfl (by kernel_rfl) (fun _ _ _ h=>h) (Or.inl ⟨by rfl,?_⟩) (?_:HT _ _ _ _ _ _ _ ⟨#[_,_,_,_,_,_,_,_,_,_,_,_,_,_,_,_,_,_,_,_,_,_,_,_,_,_,_,_,_,_,_,_,_,_,_,_,_,_,_,_,_,_,_,_,_,_,_,_,_,_,_,_,_,.pointer (some ⟨X.st,0,none⟩),.pointer (some ⟨X.st,0,none⟩),.pointer (some ⟨X.st,2,none⟩),.map (some X.tb),.pointer (some ⟨rb,3,none⟩),.string id,.pointer (some ⟨rb,2,none⟩),.int .i64 N,_,_,_,_,_,_,_,_,_,_,_,_,_,_,_,_,_,_,_,_,_,_,_,_,_,_,_,_,_,_,_,_,_,_,_,_,_,_,_,_,_,_,_,_,_,_,_,_,_,_,_,_,_,_,_,_,_,_,_,_,_,_,_,_,_,_,_,_,_,_,_,_,_,_,_,_,_,_,_,_,_,_,_,_,_,_,_],[]⟩ _)
    ·intro u hu
     obtain⟨k0,k1,k2,k3⟩:=(HK.out.below hu).cells4
     go_simp
    refine HT.tail _ rfl rfl (by kernel_rfl) (fun hS=>?_)
    have HS4:=Lib.hid (HS2.out.below hS)
    have HW4:=Lib.hid (HW2.out.trans (Went.below hS _))
    have HR4:=Lib.hid (HR2.out.below hS)
    clear hS
    refine wpList_mapUpdate_own _ rfl _ _ _ 84 rfl 9 3 (string_keyed strT_ul) tbT_ul S.intR X.tb (S.tabOf (rs.take j)).length (S.datT (S.tabOf (rs.take j))) rfl HS4.out.tab (by have:=S.tabOf_len (rs.take j);have h9:=HRL.out;rw[List.length_take]at this;simp only[maxLen];omega) (.string id) (.int .i64 N) (D.key id) rfl rfl (nmKey id (by simp only[maxLen];omega)) (.lit (.int .i64 N)) [] rfl ?_
    intro w7 hown7 hgrow7
    obtain⟨hs7,hw7⟩:=HS4.out.tabbed (tab_inserted hown7) hgrow7
    refine NoPanic.normal ?_
    have HR7:=Lib.hid (hw7.row HR4.out (fun k hk=>HS4.out.offT (HR4.out.tag hk) (by decide) (by decide) (by decide) (by decide) (by decide) (by decide) (by decide)))
    have HS7:=Lib.hid hs7
    have HW7:=Lib.hid (HW4.out.trans hw7)
    have HTP:Hid (S.tabOf (rs.take (j+1))=D.put (S.tabOf (rs.take j)) id N):=Lib.hid (HNX.out.trans ((if_pos rfl).trans (by rw[Int.toNat_natCast])))
    clear hs7 hw7 hown7 hgrow7
    go_wp2
    go_roundw
    case rel=>exact⟨j+1,by omega,by go_num,by rw[HTP.out];exact HS7.out,by rw[HTP.out];exact HW7.out,HR7.out⟩
    case measure=>simp [intOf];omega
   ·have hopb:(op==1)=false:=beq_eq_false_iff_ne.2 hop
    go_upto_region 12 with fail
    refine wp_region_noPanic ?_
    refine HT.begin (n:=6) (S:=(fun u=>Below w2.heap.size w2 u)) (by kernel_rfl) ((Below.refl _ _).drew) ?_
    generalize w2.drew=wd at *
    refine HT.take 0 (.pointer (some ⟨X.st,0,none⟩)) rfl (by kernel_rfl) (fun _ _ _ h=>h) (Or.inl ⟨by rfl,?_⟩) (?_:HT _ _ _ _ _ _ _ ⟨#[_,_,_,_,_,_,_,_,_,_,_,_,_,_,_,_,_,_,_,_,_,_,_,_,_,_,_,_,_,_,_,_,_,_,_,_,_,_,_,_,_,_,_,_,_,_,_,_,_,_,_,_,_,_,_,_,_,_,_,_,_,.pointer (some ⟨X.st,0,none⟩),_,_,_,_,_,_,_,_,_,_,_,_,_,_,_,_,_,_,_,_,_,_,_,_,_,_,_,_,_,_,_,_,_,_,_,_,_,_,_,_,_,_,_,_,_,_,_,_,_,_,_,_,_,_,_,_,_,_,_,_,_,_,_,_,_,_,_,_,_,_,_,_,_,_,_,_,_,_,_,_,_,_,_,_,_,_],[]⟩ _)
    ·intro u hu
     go_simp
    refine HT.take 1 (.pointer (some ⟨X.st,0,none⟩)) rfl (by kernel_rfl) (fun _ _ _ h=>h) (Or.inl ⟨by rfl,?_⟩) (?_:HT _ _ _ _ _ _ _ ⟨#[_,_,_,_,_,_,_,_,_,_,_,_,_,_,_,_,_,_,_,_,_,_,_,_,_,_,_,_,_,_,_,_,_,_,_,_,_,_,_,_,_,_,_,_,_,_,_,_,_,_,_,_,_,_,_,_,_,_,_,_,_,.pointer (some ⟨X.st,0,none⟩),.pointer (some ⟨X.st,0,none⟩),_,_,_,_,_,_,_,_,_,_,_,_,_,_,_,_,_,_,_,_,_,_,_,_,_,_,_,_,_,_,_,_,_,_,_,_,_,_,_,_,_,_,_,_,_,_,_,_,_,_,_,_,_,_,_,_,_,_,_,_,_,_,_,_,_,_,_,_,_,_,_,_,_,_,_,_,_,_,_,_,_,_,_,_,_],[]⟩ _)
    ·intro u hu
     go_simp
    refine HT.take 2 (.pointer (some ⟨X.st,2,none⟩)) rfl (by kernel_rfl) (fun _ _ _ h=>h) (Or.inl ⟨by rfl,?_⟩) (?_:HT _ _ _ _ _ _ _ ⟨#[_,_,_,_,_,_,_,_,_,_,_,_,_,_,_,_,_,_,_,_,_,_,_,_,_,_,_,_,_,_,_,_,_,_,_,_,_,_,_,_,_,_,_,_,_,_,_,_,_,_,_,_,_,_,_,_,_,_,_,_,_,.pointer (some ⟨X.st,0,none⟩),.pointer (some ⟨X.st,0,none⟩),.pointer (some ⟨X.st,2,none⟩),_,_,_,_,_,_,_,_,_,_,_,_,_,_,_,_,_,_,_,_,_,_,_,_,_,_,_,_,_,_,_,_,_,_,_,_,_,_,_,_,_,_,_,_,_,_,_,_,_,_,_,_,_,_,_,_,_,_,_,_,_,_,_,_,_,_,_,_,_,_,_,_,_,_,_,_,_,_,_,_,_,_,_,_],[]⟩ _)
    ·intro u hu
     go_simp
    refine HT.take 3 (.map (some X.tb)) rfl (by kernel_rfl) (fun _ _ _ h=>h) (Or.inl ⟨by rfl,?_⟩) (?_:HT _ _ _ _ _ _ _ ⟨#[_,_,_,_,_,_,_,_,_,_,_,_,_,_,_,_,_,_,_,_,_,_,_,_,_,_,_,_,_,_,_,_,_,_,_,_,_,_,_,_,_,_,_,_,_,_,_,_,_,_,_,_,_,_,_,_,_,_,_,_,_,.pointer (some ⟨X.st,0,none⟩),.pointer (some ⟨X.st,0,none⟩),.pointer (some ⟨X.st,2,none⟩),.map (some X.tb),_,_,_,_,_,_,_,_,_,_,_,_,_,_,_,_,_,_,_,_,_,_,_,_,_,_,_,_,_,_,_,_,_,_,_,_,_,_,_,_,_,_,_,_,_,_,_,_,_,_,_,_,_,_,_,_,_,_,_,_,_,_,_,_,_,_,_,_,_,_,_,_,_,_,_,_,_,_,_,_,_,_,_],[]⟩ _)
    ·intro u hu
     obtain⟨y0,y1,y2,y3⟩:=(HS2.out.below hu).cells
     go_simp
    refine HT.take 4 (.pointer (some ⟨rb,3,none⟩)) rfl (by kernel_rfl) (fun _ _ _ h=>h) (Or.inl ⟨by rfl,?_⟩) (?_:HT _ _ _ _ _ _ _ ⟨#[_,_,_,_,_,_,_,_,_,_,_,_,_,_,_,_,_,_,_,_,_,_,_,_,_,_,_,_,_,_,_,_,_,_,_,_,_,_,_,_,_,_,_,_,_,_,_,_,_,_,_,_,_,_,_,_,_,_,_,_,_,.pointer (some ⟨X.st,0,none⟩),.pointer (some ⟨X.st,0,none⟩),.pointer (some ⟨X.st,2,none⟩),.map (some X.tb),.pointer (some ⟨rb,3,none⟩),_,_,_,_,_,_,_,_,_,_,_,_,_,_,_,_,_,_,_,_,_,_,_,_,_,_,_,_,_,_,_,_,_,_,_,_,_,_,_,_,_,_,_,_,_,_,_,_,_,_,_,_,_,_,_,_,_,_,_,_,_,_,_,_,_,_,_,_,_,_,_,_,_,_,_,_,_,_,_,_,_,_],[]⟩ _)
    ·intro u hu
     go_simp
    refine HT.take 5 (.string id) rfl (by kernel_rfl) (fun _ _ _ h=>h) (Or.inl ⟨by rfl,?_⟩) (?_:HT _ _ _ _ _ _ _ ⟨#[_,_,_,_,_,_,_,_,_,_,_,_,_,_,_,_,_,_,_,_,_,_,_,_,_,_,_,_,_,_,_,_,_,_,_,_,_,_,_,_,_,_,_,_,_,_,_,_,_,_,_,_,_,_,_,_,_,_,_,_,_,.pointer (some ⟨X.st,0,none⟩),.pointer (some ⟨X.st,0,none⟩),.pointer (some ⟨X.st,2,none⟩),.map (some X.tb),.pointer (some ⟨rb,3,none⟩),.string id,_,_,_,_,_,_,_,_,_,_,_,_,_,_,_,_,_,_,_,_,_,_,_,_,_,_,_,_,_,_,_,_,_,_,_,_,_,_,_,_,_,_,_,_,_,_,_,_,_,_,_,_,_,_,_,_,_,_,_,_,_,_,_,_,_,_,_,_,_,_,_,_,_,_,_,_,_,_,_,_,_],[]⟩ _)
    ·intro u hu
     obtain⟨k0,k1,k2,k3⟩:=(HK.out.below hu).cells4
     go_simp
    refine HT.tail _ rfl rfl (by kernel_rfl) (fun hS=>?_)
    have HS4:=Lib.hid (HS2.out.below hS)
    have HW4:=Lib.hid (HW2.out.trans (Went.below hS _))
    have HR4:=Lib.hid (HR2.out.below hS)
    clear hS
    refine wpList_delete_own _ rfl _ _ 84 9 rfl 3 (string_keyed strT_ul) tbT_ul S.intR X.tb (S.tabOf (rs.take j)).length (S.datT (S.tabOf (rs.take j))) rfl HS4.out.tab (.string id) (D.key id) rfl (nmKey id (by simp only[maxLen];omega)) ?_
    intro w7 hown7 hturn7
    obtain⟨hs7,hw7⟩:=HS4.out.tabbed (tab_deleted hown7) hturn7.grown
    refine NoPanic.normal ?_
    have HR7:=Lib.hid (hw7.row HR4.out (fun k hk=>HS4.out.offT (HR4.out.tag hk) (by decide) (by decide) (by decide) (by decide) (by decide) (by decide) (by decide)))
    have HS7:=Lib.hid hs7
    have HW7:=Lib.hid (HW4.out.trans hw7)
    have HTP:Hid (S.tabOf (rs.take (j+1))=D.del (S.tabOf (rs.take j)) id):=Lib.hid (HNX.out.trans (if_neg hop))
    clear hs7 hw7 hown7 hturn7
    go_wp2
    go_roundw
    case rel=>exact⟨j+1,by omega,by go_num,by rw[HTP.out];exact HS7.out,by rw[HTP.out];exact HW7.out,HR7.out⟩
    case measure=>simp [intOf];omega
  ·obtain rfl:j=rs.length:=by omega
   rw[List.take_length]at hst hwt
   have hup:=S.tabOf_up rs
   have htl:=S.tabOf_len rs
   have hti:=S.tabOf_id (z:=4096) (fun r hr=>(HRN.out r hr).2)
   have hmd:S.mended Lo n=if ((S.tabOf rs).filter (S.sound Lo.1 n)).length < (S.tabOf rs).length then (⟨Lo.1,Lo.2.1,(S.tabOf rs).filter (S.sound Lo.1 n),S.marks n ((S.tabOf rs).filter (S.sound Lo.1 n))⟩:S.Sto).rewrite else (⟨Lo.1,Lo.2.1,(S.tabOf rs).filter (S.sound Lo.1 n),S.marks n ((S.tabOf rs).filter (S.sound Lo.1 n))⟩,0):=by
    unfold S.mended S.told
    rw[HRS.out]
   have htd:(S.told Lo n).tab=(S.tabOf rs).filter (S.sound Lo.1 n):=by
    unfold S.told
    rw[HRS.out]
   have HMD:=Lib.hid hmd
   rw[htd]at HG2
   clear hmd htd HRN HRS hrow HROW HST HWT
   have ht524:(S.tabOf rs).length≤524288:=by omega
   generalize S.tabOf rs=t0 at *
   obtain⟨f,hfd⟩:∃ f,S.sound Lo.1 n=f:=⟨_,rfl⟩
   rw[hfd]at HMD HG2
   have HFD:=Lib.hid hfd
   have HU:=Lib.hid hup
   have HTI:=Lib.hid hti
   clear hfd hup hti htl hlt hj
   -- the map of what is kept
   obtain⟨W4,hW4⟩:∃ W4,wo.alloc (.map #[] 0)=W4:=⟨_,rfl⟩
   have hmk4:W4.ownsMap Tryz.prog 9 unitE wo.heap.size 0 (.map []):=by rw[← hW4];exact World.ownsMap_made wo Tryz.prog 9 unitE
   have hb4:Below wo.heap.size wo W4:=by rw[← hW4];exact (Below.refl _ _).alloc (Nat.le_refl _) _
   have HKF:Hid (¬ X.foot ⟨Lo.1,Lo.2.1,t0,S.marks n []⟩ wo.heap.size):=Lib.hid (fun hf=>absurd (hst.lt hf) (Nat.lt_irrefl _))
   have HKB:Hid (w.heap.size≤wo.heap.size):=Lib.hid hwt.size
   have HS4:=Lib.hid (hst.below hb4)
   have HW4:=Lib.hid (hwt.trans (Went.below hb4 _))
   have HK4:=Lib.hid hmk4
   have hmm:=@run_makeMap Tryz.prog
   have HID:=Lib.hid (ids_any B X ⟨Lo.1,Lo.2.1,t0,S.marks n []⟩ W4 HS4.out HU.out (by show t0.length≤_;omega))
   have hlen:=fun ty=>tab_len HS4.out.tab ty
   obtain⟨y0,y1,y2,y3⟩:=HS4.out.cells
   clear hst hwt hmk4 hb4 y0 y1 y3
   go_upto_region 15 with fail
   try rw[hW4]
   clear hmm hW4
   generalize wo.heap.size=kb at *
   go_wp2_with fail
   refine HID.out.mono ?_
   rintro e w5 ⟨A5,c5,rfl,hr5,hb5⟩
   have e5:S.Sto.ids ⟨Lo.1,Lo.2.1,t0,S.marks n []⟩=t0.map (·.1):=rfl
   have e6:(t0.map (·.1)).length=t0.length:=List.length_map _
   rw[e5,e6]at hr5
   rw[e5,e6]
   have HS5:=Lib.hid (HS4.out.below hb5)
   have HW5:=Lib.hid (HW4.out.trans (Went.below hb5 _))
   have HK5:Hid (w5.ownsMap Tryz.prog 9 unitE kb (S.keeps ((t0.take 0).filter f)).length (D.datU (S.keeps ((t0.take 0).filter f)))):=Lib.hid (HK4.out.kept (show W4.grownBy w5 none from⟨hb5.os,hb5.tape,hb5.output,hb5.size,fun k hk _=>hb5.block k hk⟩) (by simp))
   have HR5:=Lib.hid (hr5.mono (show w.heap.size≤W4.heap.size from HW4.out.size))
   clear hr5 hb5 HID HS4 HW4 HK4 e5 e6 y2 hlen
   go_wp2
   go_loopw [77] (fun i wr=>∃ j:Nat,j≤t0.length∧i=.int .i64 j∧StAt B X ⟨Lo.1,Lo.2.1,S.mid f t0 j,S.marks n ((t0.take j).filter f)⟩ wr∧Went (M.foot d) w (X.foot ⟨Lo.1,Lo.2.1,t0,S.marks n []⟩) wr∧wr.ownsMap Tryz.prog 9 unitE kb (S.keeps ((t0.take j).filter f)).length (D.datU (S.keeps ((t0.take j).filter f)))∧Row wr w.heap.size 9 1 A5 t0.length c5 (scells (t0.map (·.1)))) (fun i _=>t0.length - (intOf i).toNat)
   case atStart=>exact⟨0,Nat.zero_le _,rfl,HS5.out,HW5.out,HK5.out,HR5.out⟩
   case round =>
    obtain⟨j,hj,rfl,hst,hwt,hkm,hrow⟩:=hrel
    obtain⟨wo2,rfl⟩:∃ wo2:World,wo2=wr:=⟨_,rfl⟩
    have HST:=Lib.hid hst
    have HWT:=Lib.hid hwt
    have HKM:=Lib.hid hkm
    have HROW:=Lib.hid hrow
    by_cases hlt:j < t0.length
    ·obtain⟨nb,nofs,rfl,hnb,x0⟩:=hrow.rd.str (k:=j) (l:=t0.map (·.1)) hlt (List.length_map _)
     rw[List.getElem_map]at x0
     have hfind:=S.mid_find (f:=f) HU.out hlt
     have hsz:=HTI.out _ (List.getElem_mem hlt)
     have HMK:=Lib.hid (fun h=>S.mid_keep (f:=f) hlt h)
     have HMR:=Lib.hid (fun h=>S.mid_drop (f:=f) HU.out hlt h)
     have HFN:=Lib.hid (S.filter_next (f:=f) hlt)
     have htb:Below w0.heap.size w0 wo2:=HW0.out.trans (hwt.under HUN.out HW0.out.size)
     have HSO:=Lib.hid (ssound_any B X ⟨Lo.1,Lo.2.1,S.mid f t0 j,S.marks n ((t0.take j).filter f)⟩ t0[j].1 t0[j].2 (m+9) wo2 hst HFL.out (by omega) (by show (S.marks n _).length≤_;rw[S.marks_len];exact hn) (HT0.out.below htb))
     have e7:S.sound Lo.1 (S.marks n ((t0.take j).filter f)).length (t0[j].1,t0[j].2)=f t0[j]:=by rw[S.marks_len,HFD.out]
     rw[e7]at HSO
     have hno:f t0[j]=true→t0[j].2 < n:=fun h=>by
      rw[← HFD.out]at h
      unfold S.sound at h
      simp only[Bool.and_eq_true,decide_eq_true_eq]at h
      exact h.1
     generalize t0[j]'hlt=q at *
     obtain⟨id,no⟩:=q
     dsimp only at *
     have hlk:=tab_look hst.tab id (by simp only[maxLen];omega)
     rw[hfind]at hlk
     dsimp only[Option.getD]at hlk
     obtain⟨y0,y1,y2,y3⟩:=hst.cells
     clear hst hwt hkm hrow hfind htb e7 y0 y1 y3
     go_wp2_with fail
     refine HSO.out.mono ?_
     rintro e w6 ⟨rfl,hb6⟩
     have HS6:=Lib.hid (HST.out.below hb6)
     have HW6:=Lib.hid (HWT.out.trans (Went.below hb6 _))
     have HK6:=Lib.hid (HKM.out.kept (show wo2.grownBy w6 none from⟨hb6.os,hb6.tape,hb6.output,hb6.size,fun k hk _=>hb6.block k hk⟩) (by simp))
     have HR6:=Lib.hid (HROW.out.below hb6)
     clear hb6 HST HWT HKM HROW hlk y2 x0 HSO
     obtain⟨y0,y1,y2,y3⟩:=HS6.out.cells
     cases hf:f (id,no) with
     | false =>
      have hmr:=HMR.out hf
      have hfn:=HFN.out
      rw[hf,if_neg (by decide),List.append_nil]at hfn
      have HMR2:=Lib.hid hmr
      have HFN2:=Lib.hid hfn
      clear hmr hfn y0 y1 y3 HMK
      go_wp2_with (at_delete;refine wpList_delete_own _ rfl _ _ 84 9 rfl 3 (string_keyed strT_ul) tbT_ul S.intR X.tb (S.mid f t0 j).length (S.datT (S.mid f t0 j)) rfl HS6.out.tab (.string id) (D.key id) rfl (nmKey id (by simp only[maxLen];omega)) ?_;intro w7 hown7 hturn7;have HOW7:=Lib.hid (tab_deleted hown7);have HGR7:=Lib.hid hturn7.grown;clear hown7 hturn7)
      obtain⟨hs7,hw7⟩:=HS6.out.tabbed HOW7.out HGR7.out
      have HS7:Hid (StAt B X ⟨Lo.1,Lo.2.1,S.mid f t0 (j+1),S.marks n ((t0.take (j+1)).filter f)⟩ w7):=Lib.hid (by rw[HMR2.out,HFN2.out];exact hs7)
      have HW7:Hid (Went (M.foot d) w (X.foot ⟨Lo.1,Lo.2.1,t0,S.marks n []⟩) w7):=Lib.hid (HW6.out.trans hw7)
      have HK7:=Lib.hid (hw7.map HK6.out HKF.out)
      have HR7:=Lib.hid (hw7.row HR6.out (fun k hk=>HS6.out.offT (HR6.out.tag hk) (by decide) (by decide) (by decide) (by decide) (by decide) (by decide) (by decide)))
      rw[← HFN2.out]at HK7
      clear hs7 hw7
      go_roundw
      case rel=>exact⟨j+1,by omega,by go_num,HS7.out,HW7.out,HK7.out,HR7.out⟩
      case measure=>simp [intOf];omega
     | true =>
      have hmk:=HMK.out hf
      have hfn:=HFN.out
      rw[hf,if_pos rfl]at hfn
      have hnn:=hno hf
      have HMK2:=Lib.hid hmk
      have HFN2:=Lib.hid hfn
      obtain⟨g,hU,hfz,hcell,hst7,hwt7⟩:=HS6.out.marked (no:=no) (by show no < (S.marks n _).length;rw[S.marks_len];exact hnn) true
      have y3b:w6.cell? ⟨X.st,3,none⟩=some (.slice (some ⟨g,0,none⟩) n X.uc):=by
       have h9:=y3
       rw[hU]at h9
       rw[← S.marks_len n ((t0.take j).filter f)]
       exact h9
      have hmm:(S.marks n ((t0.take j).filter f)).set no true=S.marks n ((t0.take (j+1)).filter f):=by
       refine S.marks_ext (by rw[List.length_set,S.marks_len]) fun i hi=>?_
       rw[S.getD_set,S.marks_len,hfn]
       by_cases hin:no=i
       ·rw[if_pos ⟨hin,hnn⟩]
        exact⟨fun _=>⟨(id,no),List.mem_append.2 (.inr (by simp)),hin⟩,fun _=>rfl⟩
       ·rw[if_neg (fun h=>hin h.1),S.marks_at]
        constructor
        ·rintro⟨_,x,hx,e⟩
         exact⟨x,List.mem_append.2 (.inl hx),e⟩
        ·rintro⟨x,hx,e⟩
         rcases List.mem_append.1 hx with hx | hx
         ·exact⟨hi,x,hx,e⟩
         ·rw[List.mem_singleton.1 hx]at e
          exact absurd e hin
      have hst8:StAt B X ⟨Lo.1,Lo.2.1,S.mid f t0 (j+1),S.marks n ((t0.take (j+1)).filter f)⟩ (w6.setCell ⟨g,no,none⟩ (.bool true)):=by
       rw[hmk,← hmm]
       exact hst7
      have hg7:=grown_set w6 g no (.bool true)
      have hkg:kb≠g:=fun e=>HKF.out (by rw[e];exact .inr (.inr (.inr (.inr (by unfold ownB;rw[hU,if_neg (by have:=HS6.out.used.cap.1;rw[S.marks_len]at this;omega)];rfl)))))
      have HK7:=Lib.hid (HK6.out.kept hg7 (fun e=>hkg (by simpa using e)))
      have HR7:=Lib.hid (hwt7.row HR6.out (fun k hk=>HS6.out.offT (HR6.out.tag hk) (by decide) (by decide) (by decide) (by decide) (by decide) (by decide) (by decide)))
      have HS7:=Lib.hid hst8
      have HW7:Hid (Went (M.foot d) w (X.foot ⟨Lo.1,Lo.2.1,t0,S.marks n []⟩) (w6.setCell ⟨g,no,none⟩ (.bool true))):=Lib.hid (HW6.out.trans hwt7)
      clear hmk hfn hst7 hst8 hwt7 hmm y0 y1 y2 y3 HMR hg7 hkg
      go_upto_region 23 with fail
      generalize w6.setCell ⟨g,no,none⟩ (.bool true)=w7 at *
      go_wp2_with fail
      refine (path_any no _ (by omega)).mono ?_
      rintro e w8 ⟨rfl,hb8⟩
      have HS8:=Lib.hid (HS7.out.below hb8)
      have HW8:=Lib.hid (HW7.out.trans (Went.below hb8 _))
      have HK8:=Lib.hid (HK7.out.kept (show w7.grownBy w8 none from⟨hb8.os,hb8.tape,hb8.output,hb8.size,fun k hk _=>hb8.block k hk⟩) (by simp))
      have HR8:=Lib.hid (HR7.out.below hb8)
      have hkl:=S.keeps_len ((t0.take j).filter f)
      have hkl2:=List.length_filter_le f (t0.take j)
      rw[List.length_take]at hkl2
      clear hb8 HS7 HW7 HK7 HR7 hfz hcell y3b
      have hps:=path_small no
      go_wp2_with (at_mapUpdate;refine wpList_mapUpdate_own _ rfl _ _ _ 90 rfl 9 92 (string_keyed strT_ul) unT_ul unitE kb (S.keeps ((t0.take j).filter f)).length (D.datU (S.keeps ((t0.take j).filter f))) rfl HK8.out (by simp only[maxLen];omega) (.string (S.path no)) (.agg #[]) (D.key (S.path no)) rfl rfl (nmKey (S.path no) (by simp only[maxLen];omega)) (.agg []) [] unitElem_mk ?_;intro w9 hown9 hgrow9)
      rw[D.datU_put _ _ 0,← S.keeps_snoc _ (id,no),← HFN2.out]at hown9
      have hM9:=ownsMap_tag HK8.out
      have hlt9:∀ {k:Nat},X.foot ⟨Lo.1,Lo.2.1,t0,S.marks n []⟩ k→kb≠k:=fun hk e=>HKF.out (by rw[e];exact hk)
      have hs9:=HS8.out.other hM9 (hlt9 (.inl (.inr (.inl rfl)))) (hlt9 (.inl (.inr (.inr (.inl rfl))))) (hlt9 (.inr (.inr (.inr (.inl rfl))))) hgrow9
      have hw9:=HW8.out.turn hgrow9 HKB.out
      have hr9:Row w9 w.heap.size 9 1 (some ⟨nb,nofs,none⟩) t0.length c5 (scells (t0.map (·.1))):=HR8.out.keptG hgrow9 (fun k hk e=>((HR8.out.tag hk).map hM9) (by simpa using e.symm))
      go_roundw
      case rel=>exact⟨j+1,by omega,by go_num,hs9,hw9,unit_tight hown9,hr9⟩
      case measure=>simp [intOf];omega
    ·obtain rfl:j=t0.length:=by omega
     rw[List.take_length]at hst hkm
     rw[S.mid_all]at hst
     have HS1:=Lib.hid hst
     have HW1:Hid (Went (M.foot d) w (X.foot ⟨Lo.1,Lo.2.1,t0.filter f,S.marks n (t0.filter f)⟩) wo2):=Lib.hid hwt
     have HK1:=Lib.hid hkm
     have hlen:=fun ty=>tab_len hst.tab ty
     have hfl:=List.length_filter_le f t0
     have HUF:Hid (D.Up (t0.filter f)):=Lib.hid (List.Pairwise.sublist List.filter_sublist HU.out)
     have HIF:Hid (∀ p∈t0.filter f,p.1.size≤4096):=Lib.hid (fun p hp=>HTI.out p (List.mem_filter.1 hp).1)
     have HKF1:Hid (¬ X.foot ⟨Lo.1,Lo.2.1,t0.filter f,S.marks n (t0.filter f)⟩ kb):=Lib.hid HKF.out
     obtain⟨y0,y1,y2,y3⟩:=hst.cells
     clear hst hwt hkm hrow y0 y1 y3 HKF HU HTI hlt hj hrl9 HS3 HW3 HR3
     dsimp only at hlen
     have hfl9:=Lib.hid hfl
     generalize t0.filter f=tf at *
     go_upto_if 114 with fail
     go_cut [] (fun wx=>(S.mended Lo n).2=0∧(S.mended Lo n).1.tab=tf∧∃ X2:SM,StAt B X2 (S.mended Lo n).1 wx∧Went (M.foot d) w (X2.foot (S.mended Lo n).1) wx∧X2.st=X.st∧X2.M.d=M.d∧wx.ownsMap Tryz.prog 9 unitE kb (S.keeps tf).length (D.datU (S.keeps tf))∧¬ X2.foot (S.mended Lo n).1 kb∧D.Fit (m+14) (S.mended Lo n).1.d)
     case first =>
      by_cases hlt:tf.length < t0.length
      ·have hli:(tf.length:Int) < t0.length:=by omega
       obtain⟨Z,hZ⟩:∃ Z,S.rewrite Lo.1 Lo.2.1 (S.records tf)=Z:=⟨_,rfl⟩
       have HE:Hid (S.mended Lo n=(⟨Z.1,Z.2.1,tf,S.marks n tf⟩,Z.2.2)):=Lib.hid (by
        rw[HMD.out,if_pos hlt]
        unfold S.Sto.rewrite
        dsimp only
        rw[hZ])
       have HFZ:Hid (D.Fit (m+14) Z.1):=Lib.hid (by rw[← hZ];exact S.rewrite_fit HFL.out _ _)
       have hrl:(S.records tf).length=tf.length:=by unfold S.records;rw[List.length_map]
       have HRC:=Lib.hid (records_any B X ⟨Lo.1,Lo.2.1,tf,S.marks n tf⟩ wo2 HS1.out HUF.out (by show tf.length≤_;omega) (fun p hp=>by have:=HIF.out p hp;omega))
       have HRW:=Lib.hid (fun (A:Option Addr) (c:Nat) (u:World) (hb:Below wo2.heap.size wo2 u) (hr:Rd u A (S.records tf).length 4 (rcells (S.records tf)))=>rewrite_any B X.lg X.M Lo.1 Lo.2.1 (m+9) (S.records tf) A (S.records tf).length c u (HS1.out.below hb).log HFL.out (by omega) rfl (by omega) (fun r hr=>by
        unfold S.records at hr
        obtain⟨p,hp,rfl⟩:=List.mem_map.1 hr
        have:=HIF.out p hp
        show p.1.size≤_
        omega) hr)
       rw[hZ]at HRW
       clear hZ HMD hrl y2
       go_wp2_with fail
       refine HRC.out.mono ?_
       rintro e w5 ⟨A6,c6,rfl,hr6,hb6⟩
       have HR6:=Lib.hid (HRW.out A6 c6 w5 hb6 hr6.rd)
       have HS6:=Lib.hid (HS1.out.below hb6)
       have HW6:=Lib.hid (HW1.out.trans (Went.below hb6 _))
       have HK6:=Lib.hid (HK1.out.kept (show wo2.grownBy w5 none from⟨hb6.os,hb6.tape,hb6.output,hb6.size,fun k hk _=>hb6.block k hk⟩) (by simp))
       clear hb6 hr6 HRC HRW HS1 HW1 HK1
       go_wp2_with fail
       refine HR6.out.mono ?_
       rintro e w7 ⟨rfl,M7,hl7,hw7,hm7⟩
       obtain⟨hs8,hw8⟩:=HS6.out.logged hl7 hw7 hm7
       have HS8:=Lib.hid hs8
       have HW8:=Lib.hid (HW6.out.trans hw8)
       have HK8:=Lib.hid (hw8.map HK6.out HKF1.out)
       have HM8:=Lib.hid (hm7.trans HM1.out)
       have HKF8:=Lib.hid (show ¬ ({ X with M:=M7 }:SM).foot ⟨Z.1,Z.2.1,tf,S.marks n tf⟩ kb from fun hf=>by
        rcases hw8.foot _ hf with h9 | h9
        ·exact HKF1.out h9
        ·have:=HK6.out.lt;omega)
       clear hl7 hw7 hm7 hs8 hw8 HR6 HS6 HW6 HK6
       by_cases hz:Z.2.2=0
       ·rw[hz]
        go_wp2
        go_meet
        exact⟨by rw[HE.out];exact hz,by rw[HE.out],{ X with M:=M7 },by rw[HE.out];exact HS8.out,by rw[HE.out];exact HW8.out,rfl,HM8.out,HK8.out,by rw[HE.out];exact HKF8.out,by rw[HE.out];exact HFZ.out⟩
       ·have hzb:(Z.2.2 != 0)=true:=bne_iff_ne.2 hz
        have HE2:Hid (G=(Z.1,none,Z.2.2)):=Lib.hid (by rw[HG2.out,HE.out];exact if_pos hz)
        go_wp2
        go_ret2
        exact .inl ⟨by rw[HE2.out],by rw[HE2.out];exact hz,by rw[HE2.out]<;>rfl,M7,by rw[HE2.out];exact HS8.out.log.disk,by rw[HE2.out];exact HW8.out.wide (fun _ h=>h) (fun _ h=>.inl (.inl h)),HM8.out⟩
      ·have hli:¬ (tf.length:Int) < t0.length:=by omega
       have HE:Hid (S.mended Lo n=(⟨Lo.1,Lo.2.1,tf,S.marks n tf⟩,0)):=Lib.hid (by rw[HMD.out,if_neg hlt])
       go_wp2
       go_meet
       exact⟨by rw[HE.out],by rw[HE.out],X,by rw[HE.out];exact HS1.out,by rw[HE.out];exact HW1.out,rfl,HM1.out,HK1.out,by rw[HE.out];exact HKF1.out,by rw[HE.out];exact HFL.out.mono (by omega)⟩
     case rest =>
      obtain⟨hz,htf,X2,hs2,hw2,hst2,hmd2,hk2,hkf2,hfit2⟩:=hcut
      have HE3:Hid (G=(({ (S.mended Lo n).1 with d:=S.swept tf (S.mended Lo n).1.d.list (S.mended Lo n).1.d }:S.Sto).tidy.d,some ({ (S.mended Lo n).1 with d:=S.swept tf (S.mended Lo n).1.d.list (S.mended Lo n).1.d }:S.Sto).tidy,0)):=Lib.hid (HG2.out.trans (if_neg (fun h=>h hz)))
      have hcnt:(S.mended Lo n).1.count≤524288:=by
       rw[HMD.out]
       split
       ·show (S.rewrite Lo.1 Lo.2.1 (S.records tf)).2.1≤_
        rcases S.rewrite_count Lo.1 Lo.2.1 (S.records tf) with h9 | h9
        ·rw[h9];exact HCN.out
        ·rw[h9]
         unfold S.records
         rw[List.length_map]
         omega
       ·exact HCN.out
      generalize (S.mended Lo n).1=S2 at *
      obtain⟨nl,hnl⟩:∃ nl,S2.d.list=nl:=⟨_,rfl⟩
      have hnow:=hfit2.now
      have hnll:nl.length≤m+14:=by
       rw[← hnl]
       have:S2.d.list.length≤S2.d.now.length:=by unfold D.Dsk.list;split<;>simp
       omega
      have HNM:Hid (∀ x∈nl,x.size≤64):=Lib.hid (fun x hx=>by
       rw[← hnl]at hx
       unfold D.Dsk.list at hx
       split at hx
       ·cases hx
       ·obtain⟨q,hq,rfl⟩:=List.mem_map.1 hx
        exact D.good_size (hfit2.nmd.now q hq))
      have HDL:=Lib.hid (dlist_any B X2.M S2.d wc hs2.log.disk hfit2.ok (by omega))
      rw[hmd2,hnl]at HDL
      rw[hnl]at HE3
      have HS2:=Lib.hid hs2
      have HW2:=Lib.hid hw2
      have HK2:=Lib.hid hk2
      have HKF2:=Lib.hid hkf2
      have HFI2:=Lib.hid hfit2
      clear hs2 hw2 hk2 hkf2 hfit2 hnl hnow HG2 HMD hz HS1 HW1 HK1 HKF1 y2 hlen hfl
      go_wp2_with fail
      refine HDL.out.mono ?_
      rintro e w5 ⟨A6,c6,rfl,hr6,hb6⟩
      have HS5:=Lib.hid (HS2.out.below hb6)
      have HW5:=Lib.hid (HW2.out.trans (Went.below hb6 _))
      have HK5:=Lib.hid (HK2.out.kept (show wc.grownBy w5 none from⟨hb6.os,hb6.tape,hb6.output,hb6.size,fun k hk _=>hb6.block k hk⟩) (by simp))
      have HR5:=Lib.hid (hr6.mono (show w.heap.size≤wc.heap.size from HW2.out.size))
      clear hr6 hb6 HDL HS2 HW2 HK2
      go_wp2
      go_loopw [125] (fun i wr=>∃ (j:Nat) (X3:SM),j≤nl.length∧i=.int .i64 j∧StAt B X3 { S2 with d:=S.swept tf (nl.take j) S2.d } wr∧Went (M.foot d) w (X3.foot { S2 with d:=S.swept tf (nl.take j) S2.d }) wr∧X3.st=X.st∧X3.M.d=M.d∧wr.ownsMap Tryz.prog 9 unitE kb (S.keeps tf).length (D.datU (S.keeps tf))∧¬ X3.foot { S2 with d:=S.swept tf (nl.take j) S2.d } kb∧Row wr w.heap.size 9 1 A6 nl.length c6 (scells nl)) (fun i _=>nl.length - (intOf i).toNat)
      case atStart=>exact⟨0,X2,Nat.zero_le _,rfl,HS5.out,HW5.out,hst2,hmd2,HK5.out,HKF2.out,HR5.out⟩
      case round =>
       obtain⟨j,X3,hj,rfl,hst,hwt,hx3,hmd3,hkm,hkf,hrow⟩:=hrel
       obtain⟨wo3,rfl⟩:∃ wo3:World,wo3=wr:=⟨_,rfl⟩
       have HST:=Lib.hid hst
       have HWT:=Lib.hid hwt
       have HKM:=Lib.hid hkm
       have HKF:=Lib.hid hkf
       have HROW:=Lib.hid hrow
       by_cases hlt:j < nl.length
       ·obtain⟨nb2,nof2,rfl,hnb2,x0⟩:=hrow.rd.str (k:=j) (l:=nl) hlt rfl
        have hsz:=HNM.out _ (List.getElem_mem hlt)
        have HSN:=Lib.hid (S.swept_next tf hlt S2.d)
        generalize nl[j]'hlt=nm at *
        have hlk:=unit_ok hkm nm (by simp only[maxLen];omega)
        rw[S.keeps_has]at hlk
        have hbe:Below wo3.heap.size wo3 (wo3.alloc (.cells #[] 92)):=(Below.refl _ _).alloc (Nat.le_refl _) _
        have HS6:=Lib.hid (HST.out.below hbe)
        have HW6:=Lib.hid (HWT.out.trans (Went.below hbe _))
        have HK6:=Lib.hid (HKM.out.kept (show wo3.grownBy (wo3.alloc (.cells #[] 92)) none from⟨hbe.os,hbe.tape,hbe.output,hbe.size,fun k hk _=>hbe.block k hk⟩) (by simp))
        have HR6:=Lib.hid (HROW.out.below hbe)
        have HFS:Hid (D.Fit (m+14+j) (S.swept tf (nl.take j) S2.d)):=Lib.hid (by
         have h9:=S.swept_fit (t:=tf) (nl.take j) HFI2.out
         rw[List.length_take,Nat.min_eq_left hj]at h9
         exact h9)
        rw[S.all_any]at HSN
        clear hst hwt hkm hrow hbe HST HWT HKM HROW
        cases hany:(tf.any fun p=>decide (S.path p.2=nm)) with
        | true =>
         rw[hany]at hlk HSN
         have HS9:Hid (S.swept tf (nl.take (j+1)) S2.d=S.swept tf (nl.take j) S2.d):=Lib.hid (HSN.out.trans (if_neg (by simp)))
         clear HSN hany
         go_wp2
         go_roundw
         case rel=>exact⟨j+1,X3,by omega,by go_num,by rw[HS9.out];exact HS6.out,by rw[HS9.out];exact HW6.out,hx3,hmd3,HK6.out,by rw[HS9.out];exact HKF.out,HR6.out⟩
         case measure=>simp [intOf];omega
        | false =>
         rw[hany]at hlk HSN
         have HIO:=Lib.hid (fun u=>isO_any nm u)
         clear hany
         cases hio:S.isO nm with
         | false =>
          rw[hio]at HIO HSN
          have HS9:Hid (S.swept tf (nl.take (j+1)) S2.d=S.swept tf (nl.take j) S2.d):=Lib.hid (HSN.out.trans (if_neg (by simp)))
          clear HSN hio
          go_wp2_with fail
          refine (HIO.out _).mono ?_
          rintro e w7 ⟨rfl,rfl⟩
          go_wp2
          go_roundw
          case rel=>exact⟨j+1,X3,by omega,by go_num,by rw[HS9.out];exact HS6.out,by rw[HS9.out];exact HW6.out,hx3,hmd3,HK6.out,by rw[HS9.out];exact HKF.out,HR6.out⟩
          case measure=>simp [intOf];omega
         | true =>
          rw[hio]at HIO HSN
          have HS9:Hid (S.swept tf (nl.take (j+1)) S2.d=((S.swept tf (nl.take j) S2.d).remove nm).1):=Lib.hid (HSN.out.trans (if_pos (by simp)))
          have HRM:=Lib.hid (remove_any B X3.M (S.swept tf (nl.take j) S2.d) nm _ HS6.out.log.disk (HFS.out.sml (by omega)) (by omega))
          rw[hmd3]at HRM
          clear HSN hio
          go_wp2_with fail
          refine (HIO.out _).mono ?_
          rintro e w7 ⟨rfl,rfl⟩
          go_wp2_with fail
          refine HRM.out.mono ?_
          rintro e w8 ⟨rfl,M8,hd8,hs8⟩
          obtain⟨hst8,hwt8⟩:=HS6.out.step hd8 hs8
          have HS8:=Lib.hid hst8
          have HW8:=Lib.hid (HW6.out.trans hwt8)
          have HK8:=Lib.hid (hwt8.map HK6.out HKF.out)
          have HR8:=Lib.hid (hwt8.row HR6.out (fun k hk=>HS6.out.offT (HR6.out.tag hk) (by decide) (by decide) (by decide) (by decide) (by decide) (by decide) (by decide)))
          have HKF8:Hid (¬ ({ X3 with M:=M8 }:SM).foot { S2 with d:=((S.swept tf (nl.take j) S2.d).remove nm).1 } kb):=Lib.hid (fun hf=>by
           rcases hwt8.foot _ hf with h9 | h9
           ·exact HKF.out h9
           ·have:=HK6.out.lt;omega)
          have hmd8:M8.d=M.d:=hs8.same.trans hmd3
          clear hd8 hs8 hst8 hwt8 HRM
          go_wp2
          go_roundw
          case rel=>exact⟨j+1,{ X3 with M:=M8 },by omega,by go_num,by rw[HS9.out];exact HS8.out,by rw[HS9.out];exact HW8.out,hx3,hmd8,HK8.out,by rw[HS9.out];exact HKF8.out,HR8.out⟩
          case measure=>simp [intOf];omega
       ·obtain rfl:j=nl.length:=by omega
        rw[List.take_length]at hst hwt
        have HFS:Hid (D.Fit (m+14+nl.length) (S.swept tf nl S2.d)):=Lib.hid (S.swept_fit (t:=tf) nl HFI2.out)
        have HTD:=Lib.hid (tidy_any B X3 { S2 with d:=S.swept tf nl S2.d } (m+14+nl.length) wo3 hst HFS.out (by omega) (by show D.Up S2.tab;rw[htf];exact HUF.out) (by show S2.tab.length≤_;rw[htf];have:=hfl9.out;omega) (fun p hp=>by change p∈S2.tab at hp;rw[htf]at hp;have:=HIF.out p hp;omega) (by show S2.count≤_;omega))
        have HWT2:=Lib.hid hwt
        rw[hx3]at HTD
        clear hst hwt hkm hkf hrow HST HWT HKM HKF HROW
        go_wp2_with fail
        refine HTD.out.mono ?_
        rintro e w9 ⟨rfl,X9,hs9,hw9,hst9,hmd9,hlg9⟩
        have HS9:=Lib.hid hs9
        have HW9:=Lib.hid (HWT2.out.trans hw9)
        rw[hx3]at hst9
        clear hs9 hw9 HTD
        go_wp2
        go_ret2
        exact .inr ⟨_,X9,by rw[HE3.out],by rw[HE3.out],by rw[HE3.out],by rw[hst9]<;>rfl,HS9.out,HW9.out,hmd9.trans hmd3⟩
end Go.Proofs.YtkempjcphpnocaaGreatDoor
