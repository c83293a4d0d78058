/- The walks of the disk's changes of names (three closures) and of alter. The walks of the disk's Remove, Rename and Create. Conditions: as each theorem states them. -/
import Derived.Test.YthjeglnkgdpijaaGreatDoorZ13
set_option maxHeartbeats 2000000
namespace Go.Proofs.YthjeglnkgdpijaaGreatDoor
open Go Go.RowKit Go.Maps
theorem Tryz.infoChg:(Tryz.prog.info? 200).map (fun i=>(i.zero,i.size,i.bytes))=some (some .nilFunc,1,8):=by kernel_rfl
section
variable (w:World) {ops:Array Oper} {rest:List Oper} {o:Oper} {a:Act} {K:Act→World→Prop} {Q:Exit→Act→World→Prop}
theorem wpChg (s x:Operand) (ho:o.op=.call { callee:=.builtin .append,args:=#[s,x],argTypes:=#[93,93] })
  (base:Nat) (A:Option Addr) (n c:Nat) (xs:List Value) (hs:a.eval s=.slice A n c) (hown:Row w base 200 1 A n c xs)
  (S:Option Addr) (m d:Nat) (news:List Value) (hx:a.eval x=.slice S m d) (hr:Rd w S m 1 news) (h1:∀ u∈news,u.oneCell'=true) (h63:n+m≤2199023255552) (hbase:base≤w.heap.size)
  (h:∀ A' c' w',Row w' base 200 1 A' (n+m) c' (xs++news)→App w w' A c A' c'→K (a.put o.dst (.slice A' (n+m) c')) w'):o.wp Tryz.prog a w K Q:=by
 obtain⟨i0,hi0,hz0,hz1,hz2⟩:=info_parts Tryz.infoChg
 exact pW w s x _ ho _ i0 _ 1 8 Tryz.underlying93 hi0 hz0 hz1 hz2 rfl (by omega) base A n c _ hs hown S m d _ hx hr h1 (by simp only[maxLen];omega) (by omega) hbase h
theorem aKZ (hgd:o.guard=none) (s x:Operand) (ho:o.op=.call { callee:=.builtin .append,args:=#[s,x],argTypes:=#[93,93] })
  (base:Nat) (A:Option Addr) (n c:Nat) (xs:List Value) (hs:a.eval s=.slice A n c) (hown:Row w base 200 1 A n c xs)
  (S:Option Addr) (m d:Nat) (news:List Value) (hx:a.eval x=.slice S m d) (hr:Rd w S m 1 news) (h1:∀ u∈news,u.oneCell'=true) (h63:n+m≤2199023255552) (hbase:base≤w.heap.size)
  (h:∀ A' c' w',Row w' base 200 1 A' (n+m) c' (xs++news)→App w w' A c A' c'→wpList Tryz.prog ops Q rest (a.put o.dst (.slice A' (n+m) c')) w'):wpList Tryz.prog ops Q (o::rest) a w :=
 wpList_plain hgd fun _ hK=>wpChg w s x ho base A n c xs hs hown S m d news hx hr h1 h63 hbase fun A' c' w' h2 h3=>hK _ _ (h A' c' w' h2 h3)
end
section
variable {B:Nat} {M M':DM} {s s':D.Dsk} {w w1 w':World} {r:Option Nat}
theorem Stepped.grown (hg:w.grownBy w' r) (hr:∀ k,r=some k→M.foot s k) (hf:∀ k,M'.foot s' k→M.foot s k∨w.heap.size≤k) (hd:M'.d=M.d):Stepped M s w M' s' w' :=
 ⟨hg.os,hg.tape,hg.output,hg.size,fun k hk hn=>hg.block k hk (fun e=>hn (hr k e.symm)),hf,hd⟩
theorem dD.mapped {l':D.NM} (h:dD B M s w) (hg:w.grownBy w1 (some M.mN)) (hm:w1.ownsMap Tryz.prog 9 D.jA M.mN l'.length (D.datum M.fa l')):dD B M { s with now:=l' } w1:=by
 have hT:=aC h.now
 have hb:∀ {k t},Tag w k t→some M.mN≠some k:=fun ht e=>(ht.map hT) (by simpa using e.symm)
 exact⟨h.blk.keptG hg (hb h.blk.tag),hm,h.safe.kept hg (fun e=>h.ne (by simpa using e.symm)),h.ne,h.pend.keptG hg (fun k hk=>hb (h.pend.tag hk)),
  h.chg.imp (fun c v hc=>hc.kept hg (fun k t e ht=>absurd e (hb ht))),h.fails.keptG hg (fun k hk=>hb (h.fails.tag hk)),
  fun no hn=>⟨(h.files no hn).blk.keptG hg (hb (h.files no hn).blk.tag),(h.files no hn).row.keptG hg (fun k hk=>hb ((h.files no hn).row.tag hk)),(h.files no hn).ge⟩,h.apart,h.ge⟩
theorem rJ.keptT {fa:Nat→Nat} {c:D.Chg} {v:Value} {t:TypeId} (h:rJ w B fa c v) (hg:w.grownBy w' r) (hr:∀ k,r=some k→Tag w k t) (ht:t≠98∧t≠9):rJ w' B fa c v :=
 h.kept hg (fun k t' e h'=>by
  obtain⟨c1,l1,e1⟩:=hr k e
  obtain⟨c2,l2,e2⟩:=h'
  rw[e1]at e2
  injection e2 with e2
  injection e2 with _ e3
  subst e3
  exact ht)
theorem dD.pended {A':Option Addr} {c':Nat} {c:D.Chg} {v:Value} (h:dD B M s w) (ha:App w w1 M.PA M.pc A' c') (hrow:Row w1 B 200 1 A' (s.pend.length+1) c' (M.pv++[v])) (hv:rJ w B M.fa c v) :
  dD B { M with PA:=A',pc:=c',pv:=M.pv++[v] } { s with pend:=s.pend++[c] } (w1.setCell ⟨M.d,2,none⟩ (.slice A' (s.pend.length+1:Nat) c')):=by
 have hg:=ha.grown
 have hT:∀ k,ownB M.PA M.pc=some k→Tag w k 200:=fun k hk=>h.pend.tag hk
 have hb:∀ {k t},Tag w k t→t≠200→ownB M.PA M.pc≠some k:=fun ht hn e=>ht.ne (hT _ e) hn rfl
 have hB1:=h.blk.keptG hg (hb h.blk.tag (by decide))
 have hg2:=aT w1 M.d 2 (.slice A' (s.pend.length+1:Nat) c')
 have hT2:=hB1.tag
 have hb2:∀ {k t},Tag w1 k t→t≠95→some M.d≠some k:=fun ht hn e=>ht.ne hT2 hn (by simpa using e.symm)
 have hmap:∀ {K:TypeId} {R:Value→Option (DataW Unit × List MemPlace)} {b n:Nat} {D:DataW Unit},w.ownsMap Tryz.prog K R b n D→(w1.setCell ⟨M.d,2,none⟩ (.slice A' (s.pend.length+1:Nat) c')).ownsMap Tryz.prog K R b n D:=fun hm=>by
  have h1:=hm.kept hg (fun e=>(hT _ e.symm).map (aC hm) rfl)
  exact h1.kept hg2 (fun e=>hT2.map (aC h1) (by simpa using e.symm))
 have hchg:∀ {c:D.Chg} {v:Value},rJ w B M.fa c v→rJ (w1.setCell ⟨M.d,2,none⟩ (.slice A' (s.pend.length+1:Nat) c')) B M.fa c v:=fun hc =>
  (hc.keptT hg hT (by decide)).keptT hg2 (fun k e=>by cases e;exact hT2) (by decide)
 have hlen:(s.pend++[c]).length=s.pend.length+1:=by simp
 refine⟨?_,hmap h.now,hmap h.safe,h.ne,?_,(h.chg.imp (fun c v hc=>hchg hc)).snoc (hchg hv),?_,fun no hn=>⟨?_,?_,(h.files no hn).ge⟩,h.apart,h.ge⟩
 ·show Blk _ _ #[_,_,.slice A' ((s.pend++[c]).length:Nat) c',_,_,_,_,_] _
  rw[hlen]
  exact hB1.set 2 _
 ·show Row _ B _ 1 A' (s.pend++[c]).length c' _
  rw[hlen]
  exact hrow.keptG hg2 (fun k hk=>hb2 (hrow.tag hk) (by decide))
 ·have h1:=h.fails.keptG hg (fun k hk=>hb (h.fails.tag hk) (by decide))
  exact h1.keptG hg2 (fun k hk=>hb2 (h1.tag hk) (by decide))
 ·have h1:=(h.files no hn).blk.keptG hg (hb (h.files no hn).blk.tag (by decide))
  exact h1.keptG hg2 (hb2 h1.tag (by decide))
 ·have h1:=(h.files no hn).row.keptG hg (fun k hk=>hb ((h.files no hn).row.tag hk) (by decide))
  exact h1.keptG hg2 (fun k hk=>hb2 (h1.tag hk) (by decide))
end
section
variable {B:Nat} {M:DM} {s:D.Dsk} {w w1 w':World}
theorem dD.pend_blk {A':Option Addr} {c':Nat} (h:dD B M s w) (ha:App w w1 M.PA M.pc A' c'):Blk w1 M.d #[.map (some M.mN),.map (some M.mS),.slice M.PA s.pend.length M.pc,.int .i64 s.data.length,.int .i64 s.room,.slice M.FA s.fails.length M.fc,.int .i64 s.power,.int .i64 s.n] 95 :=
 h.blk.keptG ha.grown (fun e=>h.blk.tag.ne (h.pend.tag e) (by decide) rfl)
theorem rJ.below {fa:Nat→Nat} {c:D.Chg} {v:Value} (h:rJ w B fa c v) (hb:Below w.heap.size w w'):rJ w' B fa c v :=
 h.kept (r:=none) ⟨hb.os,hb.tape,hb.output,hb.size,fun k hk _=>hb.block k hk⟩ (fun k t e=>by cases e)
theorem Stepped.pended {A':Option Addr} {c':Nat} {c:D.Chg} {v:Value} (_h:dD B M s w) (ha:App w w1 M.PA M.pc A' c') :
  Stepped M s w { M with PA:=A',pc:=c',pv:=M.pv++[v] } { s with pend:=s.pend++[c] } (w1.setCell ⟨M.d,2,none⟩ (.slice A' (s.pend.length+1:Nat) c')):=by
 have h1:Stepped M s w { M with PA:=A',pc:=c',pv:=M.pv++[v] } { s with pend:=s.pend++[c] } w1:=by
  refine Stepped.grown ha.grown (fun k hk=>.inr (.inr (.inr (.inl hk)))) (fun k hf=>?_) rfl
  rcases hf with hf | hf | hf | hf | hf
  ·exact .inl (.inl hf)
  ·exact .inl (.inr (.inl hf))
  ·exact .inl (.inr (.inr (.inl hf)))
  ·rcases ha.moved with ⟨e1,e2⟩ | ⟨g,e1,hg⟩
   ·dsimp only at hf
    rw[e1,e2]at hf
    exact .inl (.inr (.inr (.inr (.inl hf))))
   ·refine .inr ?_
    dsimp only at hf
    unfold ownB at hf
    split at hf
    ·cases hf
    ·rw[e1]at hf
     obtain rfl:g=k:=by simpa using hf
     exact hg
  ·exact .inl (.inr (.inr (.inr (.inr hf))))
 exact h1.trans (Stepped.set rfl)
end
def yO (b:Nat) (fa:Nat→Nat) (l:D.NM) (w:World) (e:Ending) (w':World):Prop :=
 e=.returned (.tuple #[])∧w'.ownsMap Tryz.prog 9 D.jA b l.length (D.datum fa l)∧w.grownBy w' (some b)
section
variable {w:World} {b:Nat} {fa:Nat→Nat} {l:D.NM}
theorem aGS (nm:ByteArray) (no bf bn:Nat) (h:w.ownsMap Tryz.prog 9 D.jA b l.length (D.datum fa l)) (hl:l.length≤1099511627776) (hs:nm.size≤1099511627776) (hf:Blk w bf #[.pointer (some ⟨fa no,0,none⟩)] 98) (hn:Blk w bn #[.string nm] 9) :
  Calls Tryz.prog 134 #[.map (some b),.pointer (some ⟨bf,0,none⟩),.pointer (some ⟨bn,0,none⟩)] w (yO b fa (D.put l nm no) w):=by
 have HM:=aH h
 have z0:w.cell? ⟨bf,0,none⟩=some (.pointer (some ⟨fa no,0,none⟩)):=hf.cell 0 rfl
 have z1:w.cell? ⟨bn,0,none⟩=some (.string nm):=hn.cell 0 rfl
 clear h hf hn
 go_enter Tryz.func134,Tryz.ntmps134
 go_wp2_with (at_mapUpdate;refine wpList_mapUpdate_own _ rfl _ _ _ 91 rfl 9 98 (string_keyed dA) xP D.jA b l.length (D.datum fa l) rfl HM.out (by simp only[maxLen];omega) (.string nm) (.pointer (some ⟨fa no,0,none⟩)) (D.key nm) rfl rfl (jU nm (by simp only[maxLen];omega)) (.lit (.int .i64 (fa no))) [] rfl ?_;intro w1 hown1 hgrow1)
 go_end0
 rw[D.nN]at hown1
 exact⟨rfl,fF hown1,hgrow1⟩
theorem aHV (nm:ByteArray) (bn:Nat) (h:w.ownsMap Tryz.prog 9 D.jA b l.length (D.datum fa l)) (hs:nm.size≤1099511627776) (hn:Blk w bn #[.string nm] 9) :
  Calls Tryz.prog 114 #[.map (some b),.pointer (some ⟨bn,0,none⟩)] w (yO b fa (D.del l nm) w):=by
 have HM:=aH h
 have z1:w.cell? ⟨bn,0,none⟩=some (.string nm):=hn.cell 0 rfl
 clear h hn
 go_enter Tryz.func114,Tryz.ntmps114
 go_wp2_with (at_delete;refine wpList_delete_own _ rfl _ _ 91 9 rfl 98 (string_keyed dA) xP D.jA b l.length (D.datum fa l) rfl HM.out (.string nm) (D.key nm) rfl (jU nm (by simp only[maxLen];omega)) ?_;intro w1 hown1 hturn1)
 go_end0
 rw[D.kH]at hown1
 exact⟨rfl,fF hown1,hturn1.grown⟩
theorem aGQ (x y:ByteArray) (no bx bf bn:Nat) (h:w.ownsMap Tryz.prog 9 D.jA b l.length (D.datum fa l)) (hl:l.length≤1099511627776) (hx:x.size≤1099511627776) (hs:y.size≤1099511627776) (hbx:Blk w bx #[.string x] 9) (hf:Blk w bf #[.pointer (some ⟨fa no,0,none⟩)] 98) (hn:Blk w bn #[.string y] 9) :
  Calls Tryz.prog 141 #[.map (some b),.pointer (some ⟨bx,0,none⟩),.pointer (some ⟨bf,0,none⟩),.pointer (some ⟨bn,0,none⟩)] w (yO b fa (D.put (D.del l x) y no) w):=by
 have HM:=aH h
 have z1:w.cell? ⟨bx,0,none⟩=some (.string x):=hbx.cell 0 rfl
 have hmb:=aC h
 have H2:=aH (fun (u:World) (hg:w.grownBy u (some b))=>(And.intro ((hf.keptG hg (fun e=>hf.tag.map hmb (by simpa using e.symm))).cell 0 rfl) ((hn.keptG hg (fun e=>hn.tag.map hmb (by simpa using e.symm))).cell 0 rfl):u.cell? ⟨bf,0,none⟩=some (.pointer (some ⟨fa no,0,none⟩))∧u.cell? ⟨bn,0,none⟩=some (.string y)))
 have hll:(D.del l x).length≤l.length:=List.length_filter_le _ _
 clear h hbx hf hn hmb
 go_enter Tryz.func141,Tryz.ntmps141
 go_wp2_with (first | (at_delete;refine wpList_delete_own _ rfl _ _ 91 9 rfl 98 (string_keyed dA) xP D.jA b l.length (D.datum fa l) rfl HM.out (.string x) (D.key x) rfl (jU x (by simp only[maxLen];omega)) ?_;intro w1 hown1 hturn1;rw[D.kH]at hown1;have HM1:=aH (fF hown1);have HG1:=aH hturn1.grown;obtain⟨z2,z3⟩:=H2.out w1 HG1.out;clear hown1 hturn1 z1) | (at_mapUpdate;refine wpList_mapUpdate_own _ rfl _ _ _ 91 rfl 9 98 (string_keyed dA) xP D.jA b (D.del l x).length (D.datum fa (D.del l x)) rfl HM1.out (by simp only[maxLen];omega) (.string y) (.pointer (some ⟨fa no,0,none⟩)) (D.key y) rfl rfl (jU y (by simp only[maxLen];omega)) (.lit (.int .i64 (fa no))) [] rfl ?_;intro w2 hown2 hgrow2))
 go_end0
 rw[D.nN]at hown2
 exact⟨rfl,fF hown2,HG1.out.trans hgrow2⟩
end
theorem aH8 (B:Nat) (M:DM) (s:D.Dsk) (v0:Value) (c:D.Chg) (w:World) (h:dD B M s w) (hv:rJ w B M.fa c (.func (.func 114) #[] #[v0])) (hp:s.pend.length≤1099511627776) (hc:Calls Tryz.prog 114 #[.map (some M.mN),v0] w (yO M.mN M.fa (c.app s.now) w)) :
  Calls Tryz.prog 113 #[.pointer (some ⟨M.d,0,none⟩),.func (.func 114) #[] #[v0]] w (fun e w'=>e=.returned (.int .i64 0)∧∃ M',dD B M' (s.alter c) w'∧Stepped M s w M' (s.alter c) w'∧M'.fa=M.fa):=by
 have HD:=aH h
 have HV:=aH hv
 have HC:=aH hc
 obtain⟨y0,y1,y2,y3,y4,y5,y6,y7⟩:=HD.out.cells
 clear h hv hc y1 y2 y3 y4 y5 y6 y7
 go_enter Tryz.func113,Tryz.ntmps113
 go_wp2_with fail
 refine HC.out.mono ?_
 rintro e w1 ⟨rfl,hm1,hg1⟩
 have HD1:=aH (HD.out.mapped hg1 hm1)
 have hmt:=aC HD.out.now
 have HV1:Hid (rJ w1 B M.fa c (.func (.func 114) #[] #[v0])):=aH (HV.out.kept hg1 (fun k t e ht=>absurd e (fun e=>(ht.map hmt) (by simpa using e.symm))))
 have HS1:Hid (Stepped M s w M { s with now:=c.app s.now } w1):=aH (Stepped.grown hg1 (fun k e=>by cases e;exact .inr (.inl rfl)) (fun k hf=>.inl hf) rfl)
 have hB1:B≤w1.heap.size:=bD HD1.out.ge.1 (Nat.le_of_lt HD1.out.blk.lt)
 obtain⟨y0,y1,y2,y3,y4,y5,y6,y7⟩:=HD1.out.cells
 clear hm1 hg1 hmt HC HD HV y0 y1 y3 y4 y5 y6 y7
 have HD2:=aH (HD1.out.below ((zB _ _).alloc (zA _) (.cells #[.func (.func 114) #[] #[v0]] 200)))
 have HV2:=aH (HV1.out.below ((zB _ _).alloc (zA _) (.cells #[.func (.func 114) #[] #[v0]] 200)))
 have HS2:=aH (HS1.out.trans (Stepped.below ((zB _ _).alloc (zA _) (.cells #[.func (.func 114) #[] #[v0]] 200))))
 go_wp2_with (at_builtin;refine aKZ _ rfl _ _ rfl B M.PA s.pend.length M.pc M.pv rfl HD2.out.pend _ 1 1 [.func (.func 114) #[] #[v0]] rfl (Rd.new1 w1 _ _) (by simp [Value.oneCell']) (by omega) (by simp;omega) ?_;intro A1 c1 w2 hr2 ha2;have f2:=(HD2.out.pend_blk ha2).free 2;have g2:w2.cell? ⟨M.d,2,none⟩=some (.slice M.PA s.pend.length M.pc):=(HD2.out.pend_blk ha2).cell 2 rfl)
 go_ret
 refine⟨rfl,⟨M.d,M.mN,M.mS,A1,c1,M.pv++[.func (.func 114) #[] #[v0]],M.fa,M.da,M.dc,M.FA,M.fc⟩,HD2.out.pended ha2 hr2 HV2.out,HS2.out.trans (Stepped.pended HD2.out ha2),rfl⟩
theorem aH7 (B:Nat) (M:DM) (s:D.Dsk) (v0 v1:Value) (c:D.Chg) (w:World) (h:dD B M s w) (hv:rJ w B M.fa c (.func (.func 134) #[] #[v0,v1])) (hp:s.pend.length≤1099511627776) (hc:Calls Tryz.prog 134 #[.map (some M.mN),v0,v1] w (yO M.mN M.fa (c.app s.now) w)) :
  Calls Tryz.prog 113 #[.pointer (some ⟨M.d,0,none⟩),.func (.func 134) #[] #[v0,v1]] w (fun e w'=>e=.returned (.int .i64 0)∧∃ M',dD B M' (s.alter c) w'∧Stepped M s w M' (s.alter c) w'∧M'.fa=M.fa):=by
 have HD:=aH h
 have HV:=aH hv
 have HC:=aH hc
 obtain⟨y0,y1,y2,y3,y4,y5,y6,y7⟩:=HD.out.cells
 clear h hv hc y1 y2 y3 y4 y5 y6 y7
 go_enter Tryz.func113,Tryz.ntmps113
 go_wp2_with fail
 refine HC.out.mono ?_
 rintro e w1 ⟨rfl,hm1,hg1⟩
 have HD1:=aH (HD.out.mapped hg1 hm1)
 have hmt:=aC HD.out.now
 have HV1:Hid (rJ w1 B M.fa c (.func (.func 134) #[] #[v0,v1])):=aH (HV.out.kept hg1 (fun k t e ht=>absurd e (fun e=>(ht.map hmt) (by simpa using e.symm))))
 have HS1:Hid (Stepped M s w M { s with now:=c.app s.now } w1):=aH (Stepped.grown hg1 (fun k e=>by cases e;exact .inr (.inl rfl)) (fun k hf=>.inl hf) rfl)
 have hB1:B≤w1.heap.size:=bD HD1.out.ge.1 (Nat.le_of_lt HD1.out.blk.lt)
 obtain⟨y0,y1,y2,y3,y4,y5,y6,y7⟩:=HD1.out.cells
 clear hm1 hg1 hmt HC HD HV y0 y1 y3 y4 y5 y6 y7
 have HD2:=aH (HD1.out.below ((zB _ _).alloc (zA _) (.cells #[.func (.func 134) #[] #[v0,v1]] 200)))
 have HV2:=aH (HV1.out.below ((zB _ _).alloc (zA _) (.cells #[.func (.func 134) #[] #[v0,v1]] 200)))
 have HS2:=aH (HS1.out.trans (Stepped.below ((zB _ _).alloc (zA _) (.cells #[.func (.func 134) #[] #[v0,v1]] 200))))
 go_wp2_with (at_builtin;refine aKZ _ rfl _ _ rfl B M.PA s.pend.length M.pc M.pv rfl HD2.out.pend _ 1 1 [.func (.func 134) #[] #[v0,v1]] rfl (Rd.new1 w1 _ _) (by simp [Value.oneCell']) (by omega) (by simp;omega) ?_;intro A1 c1 w2 hr2 ha2;have f2:=(HD2.out.pend_blk ha2).free 2;have g2:w2.cell? ⟨M.d,2,none⟩=some (.slice M.PA s.pend.length M.pc):=(HD2.out.pend_blk ha2).cell 2 rfl)
 go_ret
 refine⟨rfl,⟨M.d,M.mN,M.mS,A1,c1,M.pv++[.func (.func 134) #[] #[v0,v1]],M.fa,M.da,M.dc,M.FA,M.fc⟩,HD2.out.pended ha2 hr2 HV2.out,HS2.out.trans (Stepped.pended HD2.out ha2),rfl⟩
theorem aH6 (B:Nat) (M:DM) (s:D.Dsk) (v0 v1 v2:Value) (c:D.Chg) (w:World) (h:dD B M s w) (hv:rJ w B M.fa c (.func (.func 141) #[] #[v0,v1,v2])) (hp:s.pend.length≤1099511627776) (hc:Calls Tryz.prog 141 #[.map (some M.mN),v0,v1,v2] w (yO M.mN M.fa (c.app s.now) w)) :
  Calls Tryz.prog 113 #[.pointer (some ⟨M.d,0,none⟩),.func (.func 141) #[] #[v0,v1,v2]] w (fun e w'=>e=.returned (.int .i64 0)∧∃ M',dD B M' (s.alter c) w'∧Stepped M s w M' (s.alter c) w'∧M'.fa=M.fa):=by
 have HD:=aH h
 have HV:=aH hv
 have HC:=aH hc
 obtain⟨y0,y1,y2,y3,y4,y5,y6,y7⟩:=HD.out.cells
 clear h hv hc y1 y2 y3 y4 y5 y6 y7
 go_enter Tryz.func113,Tryz.ntmps113
 go_wp2_with fail
 refine HC.out.mono ?_
 rintro e w1 ⟨rfl,hm1,hg1⟩
 have HD1:=aH (HD.out.mapped hg1 hm1)
 have hmt:=aC HD.out.now
 have HV1:Hid (rJ w1 B M.fa c (.func (.func 141) #[] #[v0,v1,v2])):=aH (HV.out.kept hg1 (fun k t e ht=>absurd e (fun e=>(ht.map hmt) (by simpa using e.symm))))
 have HS1:Hid (Stepped M s w M { s with now:=c.app s.now } w1):=aH (Stepped.grown hg1 (fun k e=>by cases e;exact .inr (.inl rfl)) (fun k hf=>.inl hf) rfl)
 have hB1:B≤w1.heap.size:=bD HD1.out.ge.1 (Nat.le_of_lt HD1.out.blk.lt)
 obtain⟨y0,y1,y2,y3,y4,y5,y6,y7⟩:=HD1.out.cells
 clear hm1 hg1 hmt HC HD HV y0 y1 y3 y4 y5 y6 y7
 have HD2:=aH (HD1.out.below ((zB _ _).alloc (zA _) (.cells #[.func (.func 141) #[] #[v0,v1,v2]] 200)))
 have HV2:=aH (HV1.out.below ((zB _ _).alloc (zA _) (.cells #[.func (.func 141) #[] #[v0,v1,v2]] 200)))
 have HS2:=aH (HS1.out.trans (Stepped.below ((zB _ _).alloc (zA _) (.cells #[.func (.func 141) #[] #[v0,v1,v2]] 200))))
 go_wp2_with (at_builtin;refine aKZ _ rfl _ _ rfl B M.PA s.pend.length M.pc M.pv rfl HD2.out.pend _ 1 1 [.func (.func 141) #[] #[v0,v1,v2]] rfl (Rd.new1 w1 _ _) (by simp [Value.oneCell']) (by omega) (by simp;omega) ?_;intro A1 c1 w2 hr2 ha2;have f2:=(HD2.out.pend_blk ha2).free 2;have g2:w2.cell? ⟨M.d,2,none⟩=some (.slice M.PA s.pend.length M.pc):=(HD2.out.pend_blk ha2).cell 2 rfl)
 go_ret
 refine⟨rfl,⟨M.d,M.mN,M.mS,A1,c1,M.pv++[.func (.func 141) #[] #[v0,v1,v2]],M.fa,M.da,M.dc,M.FA,M.fc⟩,HD2.out.pended ha2 hr2 HV2.out,HS2.out.trans (Stepped.pended HD2.out ha2),rfl⟩
section
variable {B:Nat} {M:DM} {s:D.Dsk} {w u:World} {k:Nat}
theorem grown_below (hg:w.grownBy u none):Below w.heap.size w u:=⟨hg.os,hg.tape,hg.output,hg.size,fun k hk=>hg.block k hk (by simp)⟩
theorem dD.lt (h:dD B M s w) (hf:M.foot s k):k < w.heap.size:=by
 rcases hf with rfl | rfl | rfl | hf | ⟨no,hn,rfl | hf⟩
 ·exact h.blk.lt
 ·exact h.now.lt
 ·exact h.safe.lt
 ·exact (h.pend.lt k hf).2
 ·exact (h.files no hn).blk.lt
 ·exact ((h.files no hn).row.lt k hf).2
theorem dD.base (h:dD B M s w):B≤w.heap.size:=bD h.ge.1 (Nat.le_of_lt h.blk.lt)
theorem Stepped.fresh {M':DM} {s':D.Dsk} {w0 w1 w2:World} {cs:Array Value} {t:TypeId} (hd:dD B M s w0) (h:Stepped M s w1 M' s' w2) (hk:w0.heap.size≤k) (hb:Blk w1 k cs t):Blk w2 k cs t :=
 (h.block k hb.lt (fun hf=>by have:=hd.lt hf;omega)).trans hb
end
theorem kP (B:Nat) (M:DM) (s:D.Dsk) (nm:ByteArray) (w:World) (h:dD B M s w) (hs:s.Sml) (hn:nm.size≤1099511627776) :
  Calls Tryz.prog 59 #[.pointer (some ⟨M.d,0,none⟩),.string nm] w (bF B M s w (s.remove nm)):=by
 have HD:=aH h
 have HB:=aH h.base
 have hb1:Below w.heap.size w (w.alloc (.cells #[.string nm] 9)):=(zB _ _).alloc (zA _) _
 have HS1:Hid (Stepped M s w M s (w.alloc (.cells #[.string nm] 9))):=aH (Stepped.below hb1)
 have hnb:Blk (w.alloc (.cells #[.string nm] 9)) w.heap.size #[.string nm] 9:=Blk.new w _ _
 have HN:=aH hnb
 have z0:(w.alloc (.cells #[.string nm] 9)).cell? ⟨w.heap.size,0,none⟩=some (.string nm):=hnb.cell 0 rfl
 have HON:=aH (on_any B M s nm none 0 0 0 [] (w.alloc (.cells #[.string nm] 9)) (fun u hg=>(h.below hb1).below (grown_below hg)) ⟨hs.n0,hs.n⟩ hs.fails (by omega) rfl (fun x hx=>by rw[List.mem_singleton.1 hx];exact hn) (Row.none_ _ _ _ _) (zF _))
 obtain⟨G,hG⟩:∃ G,s.remove nm=G:=⟨_,rfl⟩
 have HG:Hid (G=match s.look nm [] with | (s1,_,some no)=>(s1.alter (.del nm),0) | (s1,e,none)=>(s1,e)):=aH (by rw[← hG];exact D.Dsk.on_look ..)
 rw[hG]
 clear hG hb1 hnb h
 go_enter Tryz.func59,Tryz.ntmps59
 go_wp2_with fail
 refine HON.out.mono ?_
 rintro e w2 ⟨rfl,u,hg,hd2,hs2⟩
 have HS2:=aH ((HS1.out.trans (Stepped.below (grown_below hg))).trans hs2)
 have HN2:=aH (hs2.fresh HD.out (zA _) (HN.out.below (grown_below hg)))
 clear hg hs2 HON HS1 HN z0
 rcases s.look_or nm [] with ⟨n,e,hl,he⟩ | ⟨n,no,hl,hf⟩
 ·rw[hl]at hd2 HS2 HG
  rw[hl]
  have HD2:=aH hd2
  have heb:(e==0)=false:=beq_eq_false_iff_ne.2 he
  clear hd2 hl
  go_wp2
  go_ret
  exact⟨by rw[HG.out];rfl,M,by rw[HG.out];exact HD2.out,by rw[HG.out];exact HS2.out⟩
 ·rw[hl]at hd2 HS2 HG
  rw[hl]
  have HD2:=aH hd2
  have HA:=aH (aH8 B M { s with n:=n } (.pointer (some ⟨w.heap.size,0,none⟩)) (.del nm) w2 hd2 ⟨w.heap.size,rfl,HB.out,HN2.out⟩ hs.pend (aHV nm w.heap.size hd2.now hn HN2.out))
  clear hd2 hl hf
  dsimp only[D.lG]
  go_wp2_with fail
  refine HA.out.mono ?_
  rintro e w3 ⟨rfl,M',hd3,hs3,_⟩
  have HD3:=aH hd3
  have HS3:=aH hs3
  clear hd3 hs3 HA
  go_wp2
  go_ret
  exact⟨by rw[HG.out];rfl,M',by rw[HG.out];exact HD3.out,by rw[HG.out];exact HS2.out.trans HS3.out⟩
section
variable {B:Nat} {M:DM} {s:D.Dsk} {w w1:World} {k:Nat}
def DM.more (M:DM) (n k:Nat):DM:={ M with fa:=fun i=>if i=n then k else M.fa i,da:=fun i=>if i=n then none else M.da i,dc:=fun i=>if i=n then 0 else M.dc i }
theorem yG {M:DM} {l:D.NM} {n k:Nat} (h:∀ p∈l,p.2 < n):D.datum (M.more n k).fa l=D.datum M.fa l:=by
 unfold D.datum
 congr 1
 apply List.map_congr_left
 intro p hp
 unfold D.ent DM.more
 have:=h p hp
 dsimp only
 rw[if_neg (by omega)]
theorem rJ.more {n:Nat} {c:D.Chg} {v:Value} (h:rJ w B M.fa c v) (hc:c.within n):rJ w B (M.more n k).fa c v:=by
 have e:∀ no,no < n→(M.more n k).fa no=M.fa no:=fun no hn=>if_neg (by omega)
 cases c with
 | put nm no =>
  obtain⟨bf,bn,h1,h2,h3,h4,h5⟩:=h
  exact⟨bf,bn,h1,h2,h3,by rw[e no hc];exact h4,h5⟩
 | del nm=>exact h
 | ren a b no =>
  obtain⟨ba,bf,bb,h1,h2,h3,h4,h5,h6,h7⟩:=h
  exact⟨ba,bf,bb,h1,h2,h3,h4,h5,by rw[e no hc];exact h6,h7⟩
theorem aF8.impM {α β:Type} {R S:α→β→Prop}:∀ {l:List α} {m:List β},aF8 R l m→(∀ a∈l,∀ b,R a b→S a b)→aF8 S l m
 | [],[],_,_=>trivial
 | _::_,_::_,h,hi=>⟨hi _ (by simp) _ h.1,h.2.impM (fun a ha=>hi a (List.mem_cons_of_mem _ ha))⟩
theorem dD.newFile (h0:dD B M s w) (h:dD B M s w1) (ok:s.Ok) (hk:Blk w1 k #[.int .i64 s.data.length,.slice none 0 0,.int .i64 0] 100) (hB:w.heap.size≤k) :
  dD B (M.more s.data.length k) { s with data:=s.data++[[]],firm:=s.firm++[0] } (w1.setCell ⟨M.d,3,none⟩ (.int .i64 ((s.data.length:Int)+1))):=by
 have hg:=aT w1 M.d 3 (.int .i64 ((s.data.length:Int)+1))
 have hT:=h.blk.tag
 have hb:∀ {k t},Tag w1 k t→t≠95→some M.d≠some k:=fun ht hn e=>ht.ne hT hn (by simpa using e.symm)
 have hlen:(s.data++[([]:List UInt8)]).length=s.data.length+1:=by simp
 have hsz:∀ i,i < s.data.length→(s.data++[([]:List UInt8)]).getD i []=s.data.getD i []:=fun i hi=>by simp [List.getD,List.getElem?_append_left hi]
 have hfm:∀ i,i < s.data.length→(s.firm++[0]).getD i 0=s.firm.getD i 0:=fun i hi=>by simp [List.getD,List.getElem?_append_left (show i < s.firm.length by rw[ok.lens];exact hi)]
 have hold:∀ i,i < s.data.length→(M.more s.data.length k).fa i=M.fa i∧(M.more s.data.length k).da i=M.da i∧(M.more s.data.length k).dc i=M.dc i:=fun i hi=>⟨if_neg (by omega),if_neg (by omega),if_neg (by omega)⟩
 have hnew:(M.more s.data.length k).fa s.data.length=k∧(M.more s.data.length k).da s.data.length=none∧(M.more s.data.length k).dc s.data.length=0:=⟨if_pos rfl,if_pos rfl,if_pos rfl⟩
 refine⟨?_,?_,?_,h.ne,h.pend.keptG hg (fun k hk=>hb (h.pend.tag hk) (by decide)),h.chg.impM (fun c hc v hv=>(hv.keptT hg (fun k e=>by cases e;exact hT) (by decide)).more (ok.inP c hc)),h.fails.keptG hg (fun k hk=>hb (h.fails.tag hk) (by decide)),fun no hn=>?_,fun i j hi hj hij=>?_,h.ge⟩
 ·show Blk _ _ #[_,_,_,.int .i64 ((s.data++[([]:List UInt8)]).length:Nat),_,_,_,_] _
  rw[hlen]
  exact h.blk.set 3 _
 ·show World.ownsMap _ _ _ _ _ _ (D.datum _ s.now)
  rw[yG ok.inN]
  exact h.now.kept hg (fun e=>hT.map (aC h.now) (by simpa using e.symm))
 ·show World.ownsMap _ _ _ _ _ _ (D.datum _ s.safe)
  rw[yG ok.inS]
  exact h.safe.kept hg (fun e=>hT.map (aC h.safe) (by simpa using e.symm))
 ·have hn2:no < s.data.length+1:=by rw[← hlen];exact hn
  by_cases hno:no=s.data.length
  ·subst hno
   have e1:(s.data++[([]:List UInt8)]).getD s.data.length []=[]:=by simp [List.getD]
   have e2:(s.firm++[0]).getD s.data.length 0=0:=by simp [List.getD,← ok.lens]
   refine⟨?_,?_,?_⟩
   ·rw[hnew.1,hnew.2.1,hnew.2.2]
    unfold D.Dsk.size
    dsimp only
    rw[e1,e2]
    exact hk.keptG hg (hb hk.tag (by decide))
   ·rw[hnew.2.1,hnew.2.2]
    unfold D.Dsk.size
    dsimp only
    rw[e1]
    exact Row.none_ _ _ _ _
   ·rw[hnew.1]
    exact bD h0.base hB
  ·have hi:no < s.data.length:=by omega
   obtain⟨f1,f2,f3⟩:=h.files no hi
   obtain⟨q1,q2,q3⟩:=hold no hi
   refine⟨?_,?_,by rw[q1];exact f3⟩
   ·rw[q1,q2,q3]
    unfold D.Dsk.size at f1 ⊢
    dsimp only
    rw[hsz no hi,hfm no hi]
    exact f1.keptG hg (hb f1.tag (by decide))
   ·rw[q2,q3]
    unfold D.Dsk.size at f2 ⊢
    dsimp only
    rw[hsz no hi]
    exact f2.keptG hg (fun k hk=>hb (f2.tag hk) (by decide))
 ·have hi2:i < s.data.length+1:=by rw[← hlen];exact hi
  have hj2:j < s.data.length+1:=by rw[← hlen];exact hj
  have hlt:∀ i,i < s.data.length→M.fa i < w.heap.size:=fun i hi=>(h0.files i hi).blk.lt
  by_cases hi3:i=s.data.length
  ·subst hi3
   have hj3:j < s.data.length:=by omega
   obtain⟨q1,q2,q3⟩:=hold j hj3
   rw[hnew.1,hnew.2.1,hnew.2.2,q1,q2,q3]
   exact⟨fun e=>by have:=hlt j hj3;omega,fun k hk=>by cases hk⟩
  ·have hi4:i < s.data.length:=by omega
   obtain⟨q1,q2,q3⟩:=hold i hi4
   by_cases hj3:j=s.data.length
   ·subst hj3
    rw[hnew.1,hnew.2.1,hnew.2.2,q1,q2,q3]
    exact⟨fun e=>by have:=hlt i hi4;omega,fun k _ hk=>by cases hk⟩
   ·have hj4:j < s.data.length:=by omega
    obtain⟨r1,r2,r3⟩:=hold j hj4
    rw[q1,q2,q3,r1,r2,r3]
    exact h.apart i j hi4 hj4 hij
theorem Stepped.newFile (_h0:dD B M s w) (_ok:s.Ok) (hw:Below w.heap.size w w1) (hB:w.heap.size≤k) :
  Stepped M s w (M.more s.data.length k) { s with data:=s.data++[[]],firm:=s.firm++[0] } (w1.setCell ⟨M.d,3,none⟩ (.int .i64 ((s.data.length:Int)+1))):=by
 have hg:=aT w1 M.d 3 (.int .i64 ((s.data.length:Int)+1))
 refine⟨hg.os.trans hw.os,hg.tape.trans hw.tape,hg.output.trans hw.output,bD hw.size hg.size,fun i hi hn=>(hg.block i (Nat.lt_of_lt_of_le hi hw.size) (fun e=>hn (.inl (by simpa using e)))).trans (hw.block i hi),fun i hf=>?_,rfl⟩
 rcases hf with hf | hf | hf | hf | ⟨no,hn,hf⟩
 ·exact .inl (.inl hf)
 ·exact .inl (.inr (.inl hf))
 ·exact .inl (.inr (.inr (.inl hf)))
 ·exact .inl (.inr (.inr (.inr (.inl hf))))
 ·have hn2:no < s.data.length+1:=by simpa using hn
  by_cases hno:no=s.data.length
  ·subst hno
   have hnew:(M.more s.data.length k).fa s.data.length=k∧(M.more s.data.length k).da s.data.length=none∧(M.more s.data.length k).dc s.data.length=0:=⟨if_pos rfl,if_pos rfl,if_pos rfl⟩
   rw[hnew.1,hnew.2.1,hnew.2.2]at hf
   rcases hf with rfl | hf
   ·exact .inr hB
   ·cases hf
  ·have hi:no < s.data.length:=by omega
   have hold:(M.more s.data.length k).fa no=M.fa no∧(M.more s.data.length k).da no=M.da no∧(M.more s.data.length k).dc no=M.dc no:=⟨if_neg hno,if_neg hno,if_neg hno⟩
   rw[hold.1,hold.2.1,hold.2.2]at hf
   exact .inl (.inr (.inr (.inr (.inr ⟨no,hi,hf⟩))))
end
theorem oZ (B:Nat) (M:DM) (s:D.Dsk) (nm:ByteArray) (w:World) (h:dD B M s w) (hs:s.Sml) (ok:s.Ok) (hn:nm.size≤1099511627776) :
  Calls Tryz.prog 93 #[.pointer (some ⟨M.d,0,none⟩),.string nm] w (bF B M s w (s.create nm)):=by
 have HD:=aH h
 have HB:=aH h.base
 have hb1:Below w.heap.size w (w.alloc (.cells #[.string nm] 9)):=(zB _ _).alloc (zA _) _
 have hb2:Below w.heap.size w ((w.alloc (.cells #[.string nm] 9)).alloc (.cells #[.string nm] 9)):=hb1.alloc (by simp) _
 have HS1:Hid (Stepped M s w M s ((w.alloc (.cells #[.string nm] 9)).alloc (.cells #[.string nm] 9))):=aH (Stepped.below hb2)
 have hnb:Blk (w.alloc (.cells #[.string nm] 9)) w.heap.size #[.string nm] 9:=Blk.new w _ _
 have HN:=aH (hnb.alloc (.cells #[.string nm] 9))
 have z0:(w.alloc (.cells #[.string nm] 9)).cell? ⟨w.heap.size,0,none⟩=some (.string nm):=hnb.cell 0 rfl
 have hne:w.heap.size+1≠M.d:=by have:=h.blk.lt;omega
 have HBG:=aH (vN B M s (some ⟨w.heap.size+1,0,none⟩) 1 1 [nm] ((w.alloc (.cells #[.string nm] 9)).alloc (.cells #[.string nm] 9)) (h.below hb2) ⟨hs.n0,hs.n⟩ hs.fails (by omega) rfl (fun x hx=>by rw[List.mem_singleton.1 hx];exact hn)
  (by have:=aMJ (w.alloc (.cells #[.string nm] 9)) nm;simpa using this) (fun _ a ha=>by cases ha;exact hne))
 obtain⟨n,hbn⟩:=s.begin_as [nm]
 obtain⟨G,hG⟩:∃ G,s.create nm=G:=⟨_,rfl⟩
 have HG:Hid (G=if (s.begin [nm]).2≠0 then ({ s with n:=n },(s.begin [nm]).2) else if (D.find s.now nm).isSome then ({ s with n:=n },91) else ((({ s with n:=n,data:=s.data++[[]],firm:=s.firm++[0] }:D.Dsk)).alter (.put nm s.data.length),0)):=aH (by
  rw[← hG]
  unfold D.Dsk.create
  cases hb:s.begin [nm] with
  | mk s1 e =>
   rw[hb]at hbn
   dsimp only at hbn ⊢
   subst hbn
   rfl)
 rw[hG]
 rw[hbn]at HBG
 generalize (s.begin [nm]).2=e at *
 clear hG hb1 hb2 hnb hne h hbn
 go_enter Tryz.func93,Tryz.ntmps93
 go_wp2_with fail
 refine HBG.out.mono ?_
 rintro e2 w2 ⟨rfl,hd2,hs2⟩
 have HD2:=aH hd2
 have HS2:=aH (HS1.out.trans hs2)
 have HN2:=aH (hs2.fresh HD.out (zA _) HN.out)
 have hsz2:w.heap.size+2≤w2.heap.size:=by have:=hs2.size;simpa using this
 clear hs2 hd2 HBG HS1 HN z0
 by_cases he:e=0
 rotate_left
 ·have heb:(e==0)=false:=beq_eq_false_iff_ne.2 he
  rw[if_pos he]at HG
  go_wp2
  go_ret
  exact⟨by rw[HG.out];rfl,M,by rw[HG.out];exact HD2.out,by rw[HG.out];exact HS2.out⟩
 subst he
 rw[if_neg (by simp)]at HG
 have z0:w2.cell? ⟨w.heap.size,0,none⟩=some (.string nm):=HN2.out.cell 0 rfl
 obtain⟨y0,y1,y2,y3,y4,y5,y6,y7⟩:=HD2.out.cells
 have hlk:=kT HD2.out.now nm (by simp only[maxLen];omega)
 have hlk2:=kT HD2.out.now.drew nm (by simp only[maxLen];omega)
 clear y1 y2 y4 y5 y6 y7
 cases hf:D.find s.now nm with
 | some no =>
  rw[hf]at hlk hlk2
  rw[hf,if_pos (show (some no).isSome=true from rfl)]at HG
  dsimp only[D.lG]at hlk hlk2
  go_upto_region 4 with fail
  go_region
  go_wp2
  go_ret
  exact⟨by rw[HG.out];rfl,M,by rw[HG.out];exact HD2.out.below (zB _ _).drew,by rw[HG.out];exact HS2.out.trans (Stepped.below (zB _ _).drew)⟩
 | none =>
  rw[hf]at hlk hlk2
  rw[hf,if_neg (by simp)]at HG
  dsimp only[D.lG]at hlk hlk2
  go_upto_region 4 with fail
  go_region
  have HD3:Hid (dD B M { s with n:=n } w2.drew):=aH (HD2.out.below (zB _ _).drew)
  have HS3:Hid (Stepped M s w M { s with n:=n } w2.drew):=aH (HS2.out.trans (Stepped.below (zB _ _).drew))
  have HN3:Hid (Blk w2.drew w.heap.size #[.string nm] 9):=aH HN2.out.drew
  have hsz3:w.heap.size+2≤w2.drew.heap.size:=hsz2
  clear HD2 HS2 HN2 hlk hlk2 z0 y0 y3 hsz2 hf
  generalize w2.drew=w3 at *
  have hbA:Below w3.heap.size w3 (w3.alloc (.cells #[.int .i64 s.data.length,.slice none 0 0,.int .i64 0] 100)):=(zB _ _).alloc (zA _) _
  have hbB:Below w3.heap.size w3 ((w3.alloc (.cells #[.int .i64 s.data.length,.slice none 0 0,.int .i64 0] 100)).alloc (.cells #[.pointer none] 98)):=hbA.alloc (by simp) _
  have hbW:Below w3.heap.size w3 (((w3.alloc (.cells #[.int .i64 s.data.length,.slice none 0 0,.int .i64 0] 100)).alloc (.cells #[.pointer none] 98)).setCell ⟨w3.heap.size+1,0,none⟩ (.pointer (some ⟨w3.heap.size,0,none⟩))):=aK hbB (by omega) 0 _
  have hFB:Blk (((w3.alloc (.cells #[.int .i64 s.data.length,.slice none 0 0,.int .i64 0] 100)).alloc (.cells #[.pointer none] 98)).setCell ⟨w3.heap.size+1,0,none⟩ (.pointer (some ⟨w3.heap.size,0,none⟩))) w3.heap.size #[.int .i64 s.data.length,.slice none 0 0,.int .i64 0] 100:=((Blk.new w3 _ _).alloc _).far 0 _ (by omega)
  have hPB:Blk (((w3.alloc (.cells #[.int .i64 s.data.length,.slice none 0 0,.int .i64 0] 100)).alloc (.cells #[.pointer none] 98)).setCell ⟨w3.heap.size+1,0,none⟩ (.pointer (some ⟨w3.heap.size,0,none⟩))) (w3.heap.size+1) #[.pointer (some ⟨w3.heap.size,0,none⟩)] 98:=by
   have h1:Blk ((w3.alloc (.cells #[.int .i64 s.data.length,.slice none 0 0,.int .i64 0] 100)).alloc (.cells #[.pointer none] 98)) (w3.heap.size+1) #[.pointer none] 98:=by
    have:=Blk.new (w3.alloc (.cells #[.int .i64 s.data.length,.slice none 0 0,.int .i64 0] 100)) #[.pointer none] 98
    simpa using this
   exact h1.set 0 _
  obtain⟨y0,y1,y2,y3,y4,y5,y6,y7⟩:=(HD3.out.below hbW).cells
  have f3:=(HD3.out.below hbW).blk.free 3
  have g3:=HD3.out.blk.free 3
  obtain⟨x0,x1,x2,x3,x4,x5,x6,x7⟩:=HD3.out.cells
  have hdl:=hs.data
  clear y0 y1 y2 y4 y5 y6 y7 x0 x1 x2 x4 x5 x6 x7
  have okn:({ s with n:=n }:D.Dsk).Ok:=⟨ok.lens,ok.upN,ok.upS,ok.inN,ok.inS,ok.inP,ok.fold,ok.firms⟩
  have hND:=dD.newFile HD3.out (HD3.out.below hbW) okn hFB (zA _)
  have hg4:=aT (((w3.alloc (.cells #[.int .i64 s.data.length,.slice none 0 0,.int .i64 0] 100)).alloc (.cells #[.pointer none] 98)).setCell ⟨w3.heap.size+1,0,none⟩ (.pointer (some ⟨w3.heap.size,0,none⟩))) M.d 3 (.int .i64 ((s.data.length:Int)+1))
  have hMd:M.d < w3.heap.size:=HD3.out.blk.lt
  have hPB4:=hPB.keptG hg4 (fun e=>by
   have e2:M.d=w3.heap.size+1:=by simpa using e
   omega)
  have hNB4:=(HN3.out.below hbW).keptG hg4 (fun e=>by
   have e2:M.d=w.heap.size:=by simpa using e
   have:=HD.out.blk.lt
   omega)
  have HNS:=aH (HS3.out.trans (Stepped.newFile HD3.out okn hbW (zA _)))
  have hfa:(M.more s.data.length w3.heap.size).fa s.data.length=w3.heap.size:=if_pos rfl
  have hPB5:Blk ((((w3.alloc (.cells #[.int .i64 s.data.length,.slice none 0 0,.int .i64 0] 100)).alloc (.cells #[.pointer none] 98)).setCell ⟨w3.heap.size+1,0,none⟩ (.pointer (some ⟨w3.heap.size,0,none⟩))).setCell ⟨M.d,3,none⟩ (.int .i64 ((s.data.length:Int)+1))) (w3.heap.size+1) #[.pointer (some ⟨(M.more s.data.length w3.heap.size).fa s.data.length,0,none⟩)] 98:=by rw[hfa];exact hPB4
  have ha:=(aH7 B _ _ (.pointer (some ⟨w3.heap.size+1,0,none⟩)) (.pointer (some ⟨w.heap.size,0,none⟩)) (.put nm s.data.length) _ hND ⟨w3.heap.size+1,w.heap.size,rfl,by have:=HB.out;omega,HB.out,hPB5,hNB4⟩ hs.pend (aGS nm s.data.length (w3.heap.size+1) w.heap.size hND.now hs.now hn hPB5 hNB4))
  have hW:((((w3.alloc (.cells #[.int .i64 s.data.length,.slice none 0 0,.int .i64 0] 100)).alloc (.cells #[.pointer none] 98)).setCell ⟨w3.heap.size+1,0,none⟩ (.pointer (some ⟨w3.heap.size,0,none⟩))).setCell ⟨M.d,3,none⟩ (.int .i64 ((s.data.length:Int)+1)))=(((w3.setCell ⟨M.d,3,none⟩ (.int .i64 ((s.data.length:Int)+1))).alloc (.cells #[.int .i64 s.data.length,.slice none 0 0,.int .i64 0] 100)).alloc (.cells #[.pointer (some ⟨w3.heap.size,0,none⟩)] 98)):=by go_simp
  have HA:Hid (Calls Tryz.prog _ #[.pointer (some ⟨M.d,0,none⟩),_] _ _):=aH ha
  rw[hW]at HA HNS
  clear hbA hbB hbW hFB hND hg4 hW ha hPB4 hPB5 hNB4 hfa HD3 HN3 HS3 okn hPB
  go_wp2_with fail
  refine HA.out.mono ?_
  rintro e w5 ⟨rfl,M',hd5,hs5,_⟩
  have HD5:=aH hd5
  have HS5:=aH hs5
  clear hd5 hs5 HA
  go_wp2
  go_ret
  exact⟨by rw[HG.out];rfl,M',by rw[HG.out];exact HD5.out,by rw[HG.out];exact HNS.out.trans HS5.out⟩
end Go.Proofs.YthjeglnkgdpijaaGreatDoor
