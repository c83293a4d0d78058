/- The walks of the disk's changes of names (three closures) and of alter. Conditions: names of at most 2^40 bytes, at most 2^40 names and changes. -/
import Derived.Test.YtkempjcphpnocaaGreatDoorZ07
import Derived.Maps.OwnSet
namespace Go.Proofs.YtkempjcphpnocaaGreatDoor
open Go Go.RowKit Go.Maps
theorem Tryz.infoChg:(Tryz.prog.info? 115).map (fun i=>(i.zero,i.size,i.bytes)) = some (some .nilFunc,1,8):=by kernel_rfl
section
variable (w:World) {ops:Array Oper} {rest:List Oper} {o:Oper} {a:Act} {K:Act → World → Prop} {Q:Exit → Act → World → Prop}
theorem wpChg (s x:Operand) (ho:o.op = .call { callee:=.builtin .append,args:=#[s,x],argTypes:=#[69,69] })
    (base:Nat) (A:Option Addr) (n c:Nat) (xs:List Value) (hs:a.eval s = .slice A n c) (hown:Row w base 115 1 A n c xs)
    (S:Option Addr) (m d:Nat) (news:List Value) (hx:a.eval x = .slice S m d) (hr:Rd w S m 1 news) (h1:∀ u ∈ news,u.oneCell' = true) (h63:n + m ≤ 2199023255552) (hbase:base ≤ w.heap.size)
    (h:∀ A' c' w',Row w' base 115 1 A' (n + m) c' (xs ++ news) → App w w' A c A' c' → K (a.put o.dst (.slice A' (n + m) c')) w'):o.wp Tryz.prog a w K Q:=by
  obtain ⟨i0,hi0,hz0,hz1,hz2⟩:=info_parts Tryz.infoChg
  exact wp_app w s x _ ho _ i0 _ 1 8 Tryz.underlying69 hi0 hz0 hz1 hz2 rfl (by omega) base A n c _ hs hown S m d _ hx hr h1 (by simp only [maxLen]; omega) (by omega) hbase h
theorem appChg (hgd:o.guard = none) (s x:Operand) (ho:o.op = .call { callee:=.builtin .append,args:=#[s,x],argTypes:=#[69,69] })
    (base:Nat) (A:Option Addr) (n c:Nat) (xs:List Value) (hs:a.eval s = .slice A n c) (hown:Row w base 115 1 A n c xs)
    (S:Option Addr) (m d:Nat) (news:List Value) (hx:a.eval x = .slice S m d) (hr:Rd w S m 1 news) (h1:∀ u ∈ news,u.oneCell' = true) (h63:n + m ≤ 2199023255552) (hbase:base ≤ w.heap.size)
    (h:∀ A' c' w',Row w' base 115 1 A' (n + m) c' (xs ++ news) → App w w' A c A' c' → wpList Tryz.prog ops Q rest (a.put o.dst (.slice A' (n + m) c')) w'):wpList Tryz.prog ops Q (o :: rest) a w :=
  wpList_plain hgd fun _ hK=>wpChg w s x ho base A n c xs hs hown S m d news hx hr h1 h63 hbase fun A' c' w' h2 h3=>hK _ _ (h A' c' w' h2 h3)
end
section
variable {B:Nat} {M M':DM} {s s':D.Dsk} {w w1 w':World} {r:Option Nat}
theorem Stepped.grown (hg:w.grownBy w' r) (hr:∀ k,r = some k → M.foot s k) (hf:∀ k,M'.foot s' k → M.foot s k ∨ w.heap.size ≤ k) (hd:M'.d = M.d):Stepped M s w M' s' w' :=
  ⟨hg.os,hg.tape,hg.output,hg.size,fun k hk hn=>hg.block k hk (fun e=>hn (hr k e.symm)),hf,hd⟩
theorem DkAt.mapped {l':D.NM} (h:DkAt B M s w) (hg:w.grownBy w1 (some M.mN)) (hm:w1.ownsMap Tryz.prog 9 D.ptrR M.mN l'.length (D.datum M.fa l')):DkAt B M { s with now:=l' } w1:=by
  have hT:=ownsMap_tag h.now
  have hb:∀ {k t},Tag w k t → some M.mN ≠ some k:=fun ht e=>(ht.map hT) (by simpa using e.symm)
  exact ⟨h.blk.keptG hg (hb h.blk.tag),hm,h.safe.kept hg (fun e=>h.ne (by simpa using e.symm)),h.ne,h.pend.keptG hg (fun k hk=>hb (h.pend.tag hk)),
    h.chg.imp (fun c v hc=>hc.kept hg (fun k t e ht=>absurd e (hb ht))),h.fails.keptG hg (fun k hk=>hb (h.fails.tag hk)),
    fun no hn=>⟨(h.files no hn).blk.keptG hg (hb (h.files no hn).blk.tag),(h.files no hn).row.keptG hg (fun k hk=>hb ((h.files no hn).row.tag hk)),(h.files no hn).ge⟩,h.apart,h.ge⟩
theorem ChgV.keptT {fa:Nat → Nat} {c:D.Chg} {v:Value} {t:TypeId} (h:ChgV w B fa c v) (hg:w.grownBy w' r) (hr:∀ k,r = some k → Tag w k t) (ht:t ≠ 75 ∧ t ≠ 9):ChgV w' B fa c v :=
  h.kept hg (fun k t' e h'=>by
    obtain ⟨c1,l1,e1⟩:=hr k e
    obtain ⟨c2,l2,e2⟩:=h'
    rw [e1] at e2
    injection e2 with e2
    injection e2 with _ e3
    subst e3
    exact ht)
theorem DkAt.pended {A':Option Addr} {c':Nat} {c:D.Chg} {v:Value} (h:DkAt B M s w) (ha:App w w1 M.PA M.pc A' c') (hrow:Row w1 B 115 1 A' (s.pend.length + 1) c' (M.pv ++ [v])) (hv:ChgV w B M.fa c v) :
    DkAt B { M with PA:=A',pc:=c',pv:=M.pv ++ [v] } { s with pend:=s.pend ++ [c] } (w1.setCell ⟨M.d,2,none⟩ (.slice A' (s.pend.length + 1:Nat) c')):=by
  have hg:=ha.grown
  have hT:∀ k,ownB M.PA M.pc = some k → Tag w k 115:=fun k hk=>h.pend.tag hk
  have hb:∀ {k t},Tag w k t → t ≠ 115 → ownB M.PA M.pc ≠ some k:=fun ht hn e=>ht.ne (hT _ e) hn rfl
  have hB1:=h.blk.keptG hg (hb h.blk.tag (by decide))
  have hg2:=grown_set w1 M.d 2 (.slice A' (s.pend.length + 1:Nat) c')
  have hT2:=hB1.tag
  have hb2:∀ {k t},Tag w1 k t → t ≠ 71 → some M.d ≠ some k:=fun ht hn e=>ht.ne hT2 hn (by simpa using e.symm)
  have hmap:∀ {K:TypeId} {R:Value → Option (DataW Unit × List MemPlace)} {b n:Nat} {D:DataW Unit},w.ownsMap Tryz.prog K R b n D → (w1.setCell ⟨M.d,2,none⟩ (.slice A' (s.pend.length + 1:Nat) c')).ownsMap Tryz.prog K R b n D:=fun hm=>by
    have h1:=hm.kept hg (fun e=>(hT _ e.symm).map (ownsMap_tag hm) rfl)
    exact h1.kept hg2 (fun e=>hT2.map (ownsMap_tag h1) (by simpa using e.symm))
  have hchg:∀ {c:D.Chg} {v:Value},ChgV w B M.fa c v → ChgV (w1.setCell ⟨M.d,2,none⟩ (.slice A' (s.pend.length + 1:Nat) c')) B M.fa c v:=fun hc =>
    (hc.keptT hg hT (by decide)).keptT hg2 (fun k e=>by cases e; exact hT2) (by decide)
  have hlen:(s.pend ++ [c]).length = s.pend.length + 1:=by simp
  refine ⟨?_,hmap h.now,hmap h.safe,h.ne,?_,(h.chg.imp (fun c v hc=>hchg hc)).snoc (hchg hv),?_,fun no hn=>⟨?_,?_,(h.files no hn).ge⟩,h.apart,h.ge⟩
  · show Blk _ _ #[_,_,.slice A' ((s.pend ++ [c]).length:Nat) c',_,_,_,_,_] _
    rw [hlen]
    exact hB1.set 2 _
  · show Row _ B _ 1 A' (s.pend ++ [c]).length c' _
    rw [hlen]
    exact hrow.keptG hg2 (fun k hk=>hb2 (hrow.tag hk) (by decide))
  · have h1:=h.fails.keptG hg (fun k hk=>hb (h.fails.tag hk) (by decide))
    exact h1.keptG hg2 (fun k hk=>hb2 (h1.tag hk) (by decide))
  · have h1:=(h.files no hn).blk.keptG hg (hb (h.files no hn).blk.tag (by decide))
    exact h1.keptG hg2 (hb2 h1.tag (by decide))
  · have h1:=(h.files no hn).row.keptG hg (fun k hk=>hb ((h.files no hn).row.tag hk) (by decide))
    exact h1.keptG hg2 (fun k hk=>hb2 (h1.tag hk) (by decide))
end
section
variable {B:Nat} {M:DM} {s:D.Dsk} {w w1 w':World}
theorem DkAt.pend_blk {A':Option Addr} {c':Nat} (h:DkAt B M s w) (ha:App w w1 M.PA M.pc A' c'):Blk w1 M.d #[.map (some M.mN),.map (some M.mS),.slice M.PA s.pend.length M.pc,.int .i64 s.data.length,.int .i64 s.room,.slice M.FA s.fails.length M.fc,.int .i64 s.power,.int .i64 s.n] 71 :=
  h.blk.keptG ha.grown (fun e=>h.blk.tag.ne (h.pend.tag e) (by decide) rfl)
theorem ChgV.below {fa:Nat → Nat} {c:D.Chg} {v:Value} (h:ChgV w B fa c v) (hb:Below w.heap.size w w'):ChgV w' B fa c v :=
  h.kept (r:=none) ⟨hb.os,hb.tape,hb.output,hb.size,fun k hk _=>hb.block k hk⟩ (fun k t e=>by cases e)
theorem Stepped.pended {A':Option Addr} {c':Nat} {c:D.Chg} {v:Value} (_h:DkAt B M s w) (ha:App w w1 M.PA M.pc A' c') :
    Stepped M s w { M with PA:=A',pc:=c',pv:=M.pv ++ [v] } { s with pend:=s.pend ++ [c] } (w1.setCell ⟨M.d,2,none⟩ (.slice A' (s.pend.length + 1:Nat) c')):=by
  have h1:Stepped M s w { M with PA:=A',pc:=c',pv:=M.pv ++ [v] } { s with pend:=s.pend ++ [c] } w1:=by
    refine Stepped.grown ha.grown (fun k hk=>.inr (.inr (.inr (.inl hk)))) (fun k hf=>?_) rfl
    rcases hf with hf | hf | hf | hf | hf
    · exact .inl (.inl hf)
    · exact .inl (.inr (.inl hf))
    · exact .inl (.inr (.inr (.inl hf)))
    · rcases ha.moved with ⟨e1,e2⟩ | ⟨g,e1,hg⟩
      · dsimp only at hf
        rw [e1,e2] at hf
        exact .inl (.inr (.inr (.inr (.inl hf))))
      · refine .inr ?_
        dsimp only at hf
        unfold ownB at hf
        split at hf
        · cases hf
        · rw [e1] at hf
          obtain rfl:g = k:=by simpa using hf
          exact hg
    · exact .inl (.inr (.inr (.inr (.inr hf))))
  exact h1.trans (Stepped.set rfl)
end
def RetChg (b:Nat) (fa:Nat → Nat) (l:D.NM) (w:World) (e:Ending) (w':World):Prop :=
  e = .returned (.tuple #[]) ∧ w'.ownsMap Tryz.prog 9 D.ptrR b l.length (D.datum fa l) ∧ w.grownBy w' (some b)
section
variable {w:World} {b:Nat} {fa:Nat → Nat} {l:D.NM}
set_option maxHeartbeats 1000000 in
theorem putChg_any (nm:ByteArray) (no bf bn:Nat) (h:w.ownsMap Tryz.prog 9 D.ptrR b l.length (D.datum fa l)) (hl:l.length ≤ 1099511627776) (hs:nm.size ≤ 1099511627776) (hf:Blk w bf #[.pointer (some ⟨fa no,0,none⟩)] 75) (hn:Blk w bn #[.string nm] 9) :
    Calls Tryz.prog 96 #[.map (some b),.pointer (some ⟨bf,0,none⟩),.pointer (some ⟨bn,0,none⟩)] w (RetChg b fa (D.put l nm no) w):=by
  have HM:=Lib.hid h
  have z0:w.cell? ⟨bf,0,none⟩ = some (.pointer (some ⟨fa no,0,none⟩)):=hf.cell 0 rfl
  have z1:w.cell? ⟨bn,0,none⟩ = some (.string nm):=hn.cell 0 rfl
  clear h hf hn
  go_enter Tryz.func96,Tryz.ntmps96
  go_wp2_with (at_mapUpdate; refine wpList_mapUpdate_own _ rfl _ _ _ 67 rfl 9 75 (string_keyed strT_ul) nmT_ul D.ptrR b l.length (D.datum fa l) rfl HM.out (by simp only [maxLen]; omega) (.string nm) (.pointer (some ⟨fa no,0,none⟩)) (D.key nm) rfl rfl (nmKey nm (by simp only [maxLen]; omega)) (.lit (.int .i64 (fa no))) [] rfl ?_; intro w1 hown1 hgrow1)
  go_end0
  rw [D.datum_put] at hown1
  exact ⟨rfl,names_tight hown1,hgrow1⟩
set_option maxHeartbeats 1000000 in
theorem delChg_any (nm:ByteArray) (bn:Nat) (h:w.ownsMap Tryz.prog 9 D.ptrR b l.length (D.datum fa l)) (hs:nm.size ≤ 1099511627776) (hn:Blk w bn #[.string nm] 9) :
    Calls Tryz.prog 75 #[.map (some b),.pointer (some ⟨bn,0,none⟩)] w (RetChg b fa (D.del l nm) w):=by
  have HM:=Lib.hid h
  have z1:w.cell? ⟨bn,0,none⟩ = some (.string nm):=hn.cell 0 rfl
  clear h hn
  go_enter Tryz.func75,Tryz.ntmps75
  go_wp2_with (at_delete; refine wpList_delete_own _ rfl _ _ 67 9 rfl 75 (string_keyed strT_ul) nmT_ul D.ptrR b l.length (D.datum fa l) rfl HM.out (.string nm) (D.key nm) rfl (nmKey nm (by simp only [maxLen]; omega)) ?_; intro w1 hown1 hturn1)
  go_end0
  rw [D.datum_del] at hown1
  exact ⟨rfl,names_tight hown1,hturn1.grown⟩
set_option maxHeartbeats 1000000 in
theorem renChg_any (x y:ByteArray) (no bx bf bn:Nat) (h:w.ownsMap Tryz.prog 9 D.ptrR b l.length (D.datum fa l)) (hl:l.length ≤ 1099511627776) (hx:x.size ≤ 1099511627776) (hs:y.size ≤ 1099511627776) (hbx:Blk w bx #[.string x] 9) (hf:Blk w bf #[.pointer (some ⟨fa no,0,none⟩)] 75) (hn:Blk w bn #[.string y] 9) :
    Calls Tryz.prog 99 #[.map (some b),.pointer (some ⟨bx,0,none⟩),.pointer (some ⟨bf,0,none⟩),.pointer (some ⟨bn,0,none⟩)] w (RetChg b fa (D.put (D.del l x) y no) w):=by
  have HM:=Lib.hid h
  have z1:w.cell? ⟨bx,0,none⟩ = some (.string x):=hbx.cell 0 rfl
  have hmb:=ownsMap_tag h
  have H2:=Lib.hid (fun (u:World) (hg:w.grownBy u (some b))=>(And.intro ((hf.keptG hg (fun e=>hf.tag.map hmb (by simpa using e.symm))).cell 0 rfl) ((hn.keptG hg (fun e=>hn.tag.map hmb (by simpa using e.symm))).cell 0 rfl):u.cell? ⟨bf,0,none⟩ = some (.pointer (some ⟨fa no,0,none⟩)) ∧ u.cell? ⟨bn,0,none⟩ = some (.string y)))
  have hll:(D.del l x).length ≤ l.length:=List.length_filter_le _ _
  clear h hbx hf hn hmb
  go_enter Tryz.func99,Tryz.ntmps99
  go_wp2_with (first | (at_delete; refine wpList_delete_own _ rfl _ _ 67 9 rfl 75 (string_keyed strT_ul) nmT_ul D.ptrR b l.length (D.datum fa l) rfl HM.out (.string x) (D.key x) rfl (nmKey x (by simp only [maxLen]; omega)) ?_; intro w1 hown1 hturn1; rw [D.datum_del] at hown1; have HM1:=Lib.hid (names_tight hown1); have HG1:=Lib.hid hturn1.grown; obtain ⟨z2,z3⟩:=H2.out w1 HG1.out; clear hown1 hturn1 z1) | (at_mapUpdate; refine wpList_mapUpdate_own _ rfl _ _ _ 67 rfl 9 75 (string_keyed strT_ul) nmT_ul D.ptrR b (D.del l x).length (D.datum fa (D.del l x)) rfl HM1.out (by simp only [maxLen]; omega) (.string y) (.pointer (some ⟨fa no,0,none⟩)) (D.key y) rfl rfl (nmKey y (by simp only [maxLen]; omega)) (.lit (.int .i64 (fa no))) [] rfl ?_; intro w2 hown2 hgrow2))
  go_end0
  rw [D.datum_put] at hown2
  exact ⟨rfl,names_tight hown2,HG1.out.trans hgrow2⟩
end
set_option maxHeartbeats 2000000 in
theorem alter1_any (B:Nat) (M:DM) (s:D.Dsk) (v0:Value) (c:D.Chg) (w:World) (h:DkAt B M s w) (hv:ChgV w B M.fa c (.func (.func 75) #[] #[v0])) (hp:s.pend.length ≤ 1099511627776) (hc:Calls Tryz.prog 75 #[.map (some M.mN),v0] w (RetChg M.mN M.fa (c.app s.now) w)) :
    Calls Tryz.prog 74 #[.pointer (some ⟨M.d,0,none⟩),.func (.func 75) #[] #[v0]] w (fun e w'=>e = .returned (.int .i64 0) ∧ ∃ M',DkAt B M' (s.alter c) w' ∧ Stepped M s w M' (s.alter c) w' ∧ M'.fa = M.fa):=by
  have HD:=Lib.hid h
  have HV:=Lib.hid hv
  have HC:=Lib.hid hc
  obtain ⟨y0,y1,y2,y3,y4,y5,y6,y7⟩:=HD.out.cells
  clear h hv hc y1 y2 y3 y4 y5 y6 y7
  go_enter Tryz.func74,Tryz.ntmps74
  go_wp2_with fail
  refine HC.out.mono ?_
  rintro e w1 ⟨rfl,hm1,hg1⟩
  have HD1:=Lib.hid (HD.out.mapped hg1 hm1)
  have hmt:=ownsMap_tag HD.out.now
  have HV1:Hid (ChgV w1 B M.fa c (.func (.func 75) #[] #[v0])):=Lib.hid (HV.out.kept hg1 (fun k t e ht=>absurd e (fun e=>(ht.map hmt) (by simpa using e.symm))))
  have HS1:Hid (Stepped M s w M { s with now:=c.app s.now } w1):=Lib.hid (Stepped.grown hg1 (fun k e=>by cases e; exact .inr (.inl rfl)) (fun k hf=>.inl hf) rfl)
  have hB1:B ≤ w1.heap.size:=Nat.le_trans HD1.out.ge.1 (Nat.le_of_lt HD1.out.blk.lt)
  obtain ⟨y0,y1,y2,y3,y4,y5,y6,y7⟩:=HD1.out.cells
  clear hm1 hg1 hmt HC HD HV y0 y1 y3 y4 y5 y6 y7
  have HD2:=Lib.hid (HD1.out.below ((Below.refl _ _).alloc (Nat.le_refl _) (.cells #[.func (.func 75) #[] #[v0]] 115)))
  have HV2:=Lib.hid (HV1.out.below ((Below.refl _ _).alloc (Nat.le_refl _) (.cells #[.func (.func 75) #[] #[v0]] 115)))
  have HS2:=Lib.hid (HS1.out.trans (Stepped.below ((Below.refl _ _).alloc (Nat.le_refl _) (.cells #[.func (.func 75) #[] #[v0]] 115))))
  go_wp2_with (at_builtin; refine appChg _ rfl _ _ rfl B M.PA s.pend.length M.pc M.pv rfl HD2.out.pend _ 1 1 [.func (.func 75) #[] #[v0]] rfl (Rd.new1 w1 _ _) (by simp [Value.oneCell']) (by omega) (by simp; omega) ?_; intro A1 c1 w2 hr2 ha2; have f2:=(HD2.out.pend_blk ha2).free 2; have g2:w2.cell? ⟨M.d,2,none⟩ = some (.slice M.PA s.pend.length M.pc):=(HD2.out.pend_blk ha2).cell 2 rfl)
  go_ret
  refine ⟨rfl,⟨M.d,M.mN,M.mS,A1,c1,M.pv ++ [.func (.func 75) #[] #[v0]],M.fa,M.da,M.dc,M.FA,M.fc⟩,HD2.out.pended ha2 hr2 HV2.out,HS2.out.trans (Stepped.pended HD2.out ha2),rfl⟩
set_option maxHeartbeats 2000000 in
theorem alter2_any (B:Nat) (M:DM) (s:D.Dsk) (v0 v1:Value) (c:D.Chg) (w:World) (h:DkAt B M s w) (hv:ChgV w B M.fa c (.func (.func 96) #[] #[v0,v1])) (hp:s.pend.length ≤ 1099511627776) (hc:Calls Tryz.prog 96 #[.map (some M.mN),v0,v1] w (RetChg M.mN M.fa (c.app s.now) w)) :
    Calls Tryz.prog 74 #[.pointer (some ⟨M.d,0,none⟩),.func (.func 96) #[] #[v0,v1]] w (fun e w'=>e = .returned (.int .i64 0) ∧ ∃ M',DkAt B M' (s.alter c) w' ∧ Stepped M s w M' (s.alter c) w' ∧ M'.fa = M.fa):=by
  have HD:=Lib.hid h
  have HV:=Lib.hid hv
  have HC:=Lib.hid hc
  obtain ⟨y0,y1,y2,y3,y4,y5,y6,y7⟩:=HD.out.cells
  clear h hv hc y1 y2 y3 y4 y5 y6 y7
  go_enter Tryz.func74,Tryz.ntmps74
  go_wp2_with fail
  refine HC.out.mono ?_
  rintro e w1 ⟨rfl,hm1,hg1⟩
  have HD1:=Lib.hid (HD.out.mapped hg1 hm1)
  have hmt:=ownsMap_tag HD.out.now
  have HV1:Hid (ChgV w1 B M.fa c (.func (.func 96) #[] #[v0,v1])):=Lib.hid (HV.out.kept hg1 (fun k t e ht=>absurd e (fun e=>(ht.map hmt) (by simpa using e.symm))))
  have HS1:Hid (Stepped M s w M { s with now:=c.app s.now } w1):=Lib.hid (Stepped.grown hg1 (fun k e=>by cases e; exact .inr (.inl rfl)) (fun k hf=>.inl hf) rfl)
  have hB1:B ≤ w1.heap.size:=Nat.le_trans HD1.out.ge.1 (Nat.le_of_lt HD1.out.blk.lt)
  obtain ⟨y0,y1,y2,y3,y4,y5,y6,y7⟩:=HD1.out.cells
  clear hm1 hg1 hmt HC HD HV y0 y1 y3 y4 y5 y6 y7
  have HD2:=Lib.hid (HD1.out.below ((Below.refl _ _).alloc (Nat.le_refl _) (.cells #[.func (.func 96) #[] #[v0,v1]] 115)))
  have HV2:=Lib.hid (HV1.out.below ((Below.refl _ _).alloc (Nat.le_refl _) (.cells #[.func (.func 96) #[] #[v0,v1]] 115)))
  have HS2:=Lib.hid (HS1.out.trans (Stepped.below ((Below.refl _ _).alloc (Nat.le_refl _) (.cells #[.func (.func 96) #[] #[v0,v1]] 115))))
  go_wp2_with (at_builtin; refine appChg _ rfl _ _ rfl B M.PA s.pend.length M.pc M.pv rfl HD2.out.pend _ 1 1 [.func (.func 96) #[] #[v0,v1]] rfl (Rd.new1 w1 _ _) (by simp [Value.oneCell']) (by omega) (by simp; omega) ?_; intro A1 c1 w2 hr2 ha2; have f2:=(HD2.out.pend_blk ha2).free 2; have g2:w2.cell? ⟨M.d,2,none⟩ = some (.slice M.PA s.pend.length M.pc):=(HD2.out.pend_blk ha2).cell 2 rfl)
  go_ret
  refine ⟨rfl,⟨M.d,M.mN,M.mS,A1,c1,M.pv ++ [.func (.func 96) #[] #[v0,v1]],M.fa,M.da,M.dc,M.FA,M.fc⟩,HD2.out.pended ha2 hr2 HV2.out,HS2.out.trans (Stepped.pended HD2.out ha2),rfl⟩
set_option maxHeartbeats 2000000 in
theorem alter3_any (B:Nat) (M:DM) (s:D.Dsk) (v0 v1 v2:Value) (c:D.Chg) (w:World) (h:DkAt B M s w) (hv:ChgV w B M.fa c (.func (.func 99) #[] #[v0,v1,v2])) (hp:s.pend.length ≤ 1099511627776) (hc:Calls Tryz.prog 99 #[.map (some M.mN),v0,v1,v2] w (RetChg M.mN M.fa (c.app s.now) w)) :
    Calls Tryz.prog 74 #[.pointer (some ⟨M.d,0,none⟩),.func (.func 99) #[] #[v0,v1,v2]] w (fun e w'=>e = .returned (.int .i64 0) ∧ ∃ M',DkAt B M' (s.alter c) w' ∧ Stepped M s w M' (s.alter c) w' ∧ M'.fa = M.fa):=by
  have HD:=Lib.hid h
  have HV:=Lib.hid hv
  have HC:=Lib.hid hc
  obtain ⟨y0,y1,y2,y3,y4,y5,y6,y7⟩:=HD.out.cells
  clear h hv hc y1 y2 y3 y4 y5 y6 y7
  go_enter Tryz.func74,Tryz.ntmps74
  go_wp2_with fail
  refine HC.out.mono ?_
  rintro e w1 ⟨rfl,hm1,hg1⟩
  have HD1:=Lib.hid (HD.out.mapped hg1 hm1)
  have hmt:=ownsMap_tag HD.out.now
  have HV1:Hid (ChgV w1 B M.fa c (.func (.func 99) #[] #[v0,v1,v2])):=Lib.hid (HV.out.kept hg1 (fun k t e ht=>absurd e (fun e=>(ht.map hmt) (by simpa using e.symm))))
  have HS1:Hid (Stepped M s w M { s with now:=c.app s.now } w1):=Lib.hid (Stepped.grown hg1 (fun k e=>by cases e; exact .inr (.inl rfl)) (fun k hf=>.inl hf) rfl)
  have hB1:B ≤ w1.heap.size:=Nat.le_trans HD1.out.ge.1 (Nat.le_of_lt HD1.out.blk.lt)
  obtain ⟨y0,y1,y2,y3,y4,y5,y6,y7⟩:=HD1.out.cells
  clear hm1 hg1 hmt HC HD HV y0 y1 y3 y4 y5 y6 y7
  have HD2:=Lib.hid (HD1.out.below ((Below.refl _ _).alloc (Nat.le_refl _) (.cells #[.func (.func 99) #[] #[v0,v1,v2]] 115)))
  have HV2:=Lib.hid (HV1.out.below ((Below.refl _ _).alloc (Nat.le_refl _) (.cells #[.func (.func 99) #[] #[v0,v1,v2]] 115)))
  have HS2:=Lib.hid (HS1.out.trans (Stepped.below ((Below.refl _ _).alloc (Nat.le_refl _) (.cells #[.func (.func 99) #[] #[v0,v1,v2]] 115))))
  go_wp2_with (at_builtin; refine appChg _ rfl _ _ rfl B M.PA s.pend.length M.pc M.pv rfl HD2.out.pend _ 1 1 [.func (.func 99) #[] #[v0,v1,v2]] rfl (Rd.new1 w1 _ _) (by simp [Value.oneCell']) (by omega) (by simp; omega) ?_; intro A1 c1 w2 hr2 ha2; have f2:=(HD2.out.pend_blk ha2).free 2; have g2:w2.cell? ⟨M.d,2,none⟩ = some (.slice M.PA s.pend.length M.pc):=(HD2.out.pend_blk ha2).cell 2 rfl)
  go_ret
  refine ⟨rfl,⟨M.d,M.mN,M.mS,A1,c1,M.pv ++ [.func (.func 99) #[] #[v0,v1,v2]],M.fa,M.da,M.dc,M.FA,M.fc⟩,HD2.out.pended ha2 hr2 HV2.out,HS2.out.trans (Stepped.pended HD2.out ha2),rfl⟩
end Go.Proofs.YtkempjcphpnocaaGreatDoor
