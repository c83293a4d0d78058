/- Files in memory, and the walk of the disk's Left. Conditions: names and numbers small, names good. -/
import Derived.Test.YtkempjcphpnocaaGreatDoorZ07
namespace Go.Proofs.YtkempjcphpnocaaGreatDoor
open Go Go.RowKit Go.Maps
structure FP where
 nm:ByteArray
 bs:List UInt8
 A:Option Addr
 c:Nat
def FP.x (p:FP):ByteArray × List UInt8:=(p.nm,p.bs)
def fpcells:List FP→List Value
 | []=>[]
 | p::t=>.string p.nm::.slice p.A p.bs.length p.c::fpcells t
theorem fpcells_append:∀ l m:List FP,fpcells (l++m)=fpcells l++fpcells m
 | [],m=>rfl
 | p::t,m=>by simp [fpcells,fpcells_append t m]
theorem fpcells_one:∀ l:List FP,∀ u∈fpcells l,u.oneCell'=true
 | [],u,h=>by cases h
 | p::t,u,h=>by
  simp only[fpcells,List.mem_cons]at h
  rcases h with rfl | rfl | h
  ·rfl
  ·rfl
  ·exact fpcells_one t u h
theorem fpcells_at:∀ (l:List FP) (k:Nat) (h:k < l.length),(fpcells l)[k * 2]?=some (.string l[k].nm)∧(fpcells l)[k * 2+1]?=some (.slice l[k].A l[k].bs.length l[k].c)
 | p::t,0,_=>by simp [fpcells]
 | p::t,k+1,h=>by
  have:=fpcells_at t k (by simpa using h)
  have e:(k+1) * 2=k * 2+2:=by omega
  simp only[fpcells,e,List.getElem_cons_succ]
  exact this
structure FRow (w:World) (base:Nat) (A:Option Addr) (c:Nat) (l:List FP):Prop where
 row:Row w base 73 2 A l.length c (fpcells l)
 all:∀ p∈l,Row w base 5 1 p.A p.bs.length p.c (bcells p.bs)
section
variable {w w' w1 w2:World} {base:Nat} {A:Option Addr} {c:Nat} {l:List FP}
theorem FRow.nil (w:World) (base:Nat) (A:Option Addr):FRow w base A 0 []:=⟨Row.empty _ _ _ _ _,by simp⟩
theorem FRow.below (h:FRow w base A c l) (hb:Below w.heap.size w w'):FRow w' base A c l:=⟨h.row.below hb,fun p hp=>(h.all p hp).below hb⟩
theorem FRow.mono (h:FRow w base A c l) {b:Nat} (hb:b≤base):FRow w b A c l:=⟨h.row.mono hb,fun p hp=>(h.all p hp).mono hb⟩
theorem FRow.snoc {A':Option Addr} {c':Nat} {p:FP} (h:FRow w1 base A c l) (hx:Row w1 base 5 1 p.A p.bs.length p.c (bcells p.bs)) (hr:Row w2 base 73 2 A' (l.length+1) c' (fpcells (l++[p]))) (ha:App w1 w2 A c A' c'):FRow w2 base A' c' (l++[p]):=by
 refine⟨by rw[List.length_append];exact hr,fun q hq=>?_⟩
 have hq1:Row w1 base 5 1 q.A q.bs.length q.c (bcells q.bs):=by
  rcases List.mem_append.1 hq with hm | hm
  ·exact h.all q hm
  ·rw[List.mem_singleton.1 hm];exact hx
 exact hq1.keptG ha.grown (fun k hk e=>(hq1.tag hk).ne (h.row.tag e) (by decide) rfl)
end
theorem Tryz.infoFile:(Tryz.prog.info? 73).map (fun i=>(i.zero,i.size,i.bytes))=some (some (.agg #[.string ⟨#[]⟩,.slice none 0 0]),2,40):=by kernel_rfl
section
variable (w:World) {ops:Array Oper} {rest:List Oper} {o:Oper} {a:Act} {K:Act→World→Prop} {Q:Exit→Act→World→Prop}
theorem appFile (hgd:o.guard=none) (s x:Operand) (ho:o.op=.call { callee:=.builtin .append,args:=#[s,x],argTypes:=#[59,59] })
  (base:Nat) (A:Option Addr) (n c:Nat) (xs:List FP) (hs:a.eval s=.slice A n c) (hown:Row w base 73 2 A n c (fpcells xs))
  (S:Option Addr) (m d:Nat) (news:List FP) (hx:a.eval x=.slice S m d) (hr:Rd w S m 2 (fpcells news)) (h63:n+m≤2199023255552) (hbase:base≤w.heap.size)
  (h:∀ A' c' w',Row w' base 73 2 A' (n+m) c' (fpcells (xs++news))→App w w' A c A' c'→wpList Tryz.prog ops Q rest (a.put o.dst (.slice A' (n+m) c')) w'):wpList Tryz.prog ops Q (o::rest) a w:=by
 refine wpList_plain hgd fun _ hK=>?_
 obtain⟨i0,hi0,hz0,hz1,hz2⟩:=info_parts Tryz.infoFile
 exact wp_app w s x _ ho _ i0 _ 2 40 Tryz.underlying59 hi0 hz0 hz1 hz2 rfl (by omega) base A n c _ hs hown S m d _ hx hr (fpcells_one news) (by simp only[maxLen];omega) (by omega) hbase (fun A' c' w' h2 h3=>hK _ _ (h A' c' w' (by rw[fpcells_append];exact h2) h3))
end
def RetFiles (w:World) (fs:List (ByteArray × List UInt8)) (e:Ending) (w':World):Prop :=
 ∃ A c l,e=.returned (.slice A fs.length c)∧l.map FP.x=fs∧FRow w' w.heap.size A c l∧Below w.heap.size w w'
theorem All2.at_ {α β:Type} {R:α→β→Prop}:∀ {l:List α} {m:List β} {i:Nat} (_:All2 R l m) (hi:i < l.length),∃ b,m[i]?=some b∧R (l[i]'hi) b
 | _::_,b::_,0,h,_=>⟨b,rfl,h.1⟩
 | _::_,_::_,i+1,h,hi=>by
  obtain⟨b,h1,h2⟩:=All2.at_ (i:=i) h.2 (by simpa using hi)
  exact⟨b,by simpa using h1,h2⟩
theorem D.namesLeft_len (s:D.Dsk) (k:Int):(s.namesLeft k).length≤s.safe.length+s.pend.length:=by
 have:∀ (cs:List D.Chg) (l:D.NM),(cs.foldl D.Chg.app l).length≤l.length+cs.length:=by
  intro cs
  induction cs with
  | nil=>intro l;exact Nat.le_refl _
  | cons c cs ih =>
   intro l
   have h1:=ih (c.app l)
   have h2:=D.length_app l c
   rw[List.foldl_cons,List.length_cons]
   omega
 have h1:=this (s.pend.take k.toNat) s.safe
 have h2:(s.pend.take k.toNat).length≤s.pend.length:=by rw[List.length_take];omega
 unfold D.Dsk.namesLeft
 omega
theorem D.namesLeft_in {s:D.Dsk} (ok:s.Ok) (nm:s.Nmd) (k:Int):∀ p∈s.namesLeft k,p.2 < s.data.length∧D.good p.1=true:=by
 have:∀ (cs:List D.Chg) (l:D.NM),(∀ c∈cs,c.within s.data.length∧c.nmd=true)→(∀ p∈l,p.2 < s.data.length∧D.good p.1=true)→∀ p∈cs.foldl D.Chg.app l,p.2 < s.data.length∧D.good p.1=true:=by
  intro cs
  induction cs with
  | nil=>exact fun _ _ h=>h
  | cons c cs ih =>
   intro l hc hl
   refine ih _ (fun x hx=>hc x (List.mem_cons_of_mem _ hx)) (fun p hp=>?_)
   obtain⟨c1,c2⟩:=hc c (by simp)
   exact⟨D.mem_app hp (fun q hq=>(hl q hq).1) c1,D.nmd_app (fun q hq=>(hl q hq).2) c2 p hp⟩
 exact this _ _ (fun c hc=>⟨ok.inP c (List.mem_of_mem_take hc),nm.pend c (List.mem_of_mem_take hc)⟩) (fun p hp=>⟨ok.inS p hp,nm.safe p hp⟩)
def D.Dsk.partly (s:D.Dsk) (k:Int) (i:Nat):D.NM:=((s.pend.take (min i k.toNat)).foldl D.Chg.app s.safe)
theorem D.partly_zero (s:D.Dsk) (k:Int):s.partly k 0=s.safe:=by
 unfold D.Dsk.partly
 rw[Nat.zero_min]
 rfl
theorem D.partly_step {s:D.Dsk} {k:Int} {i:Nat} (hi:i < s.pend.length) (hk:(i:Int) < k):s.partly k (i+1)=(s.pend[i]).app (s.partly k i):=by
 unfold D.Dsk.partly
 have h1:min (i+1) k.toNat=i+1:=by omega
 have h2:min i k.toNat=i:=by omega
 rw[h1,h2,List.take_succ_eq_append_getElem hi,List.foldl_append]
 rfl
theorem D.partly_stay {s:D.Dsk} {k:Int} {i:Nat} (hk:¬ (i:Int) < k):s.partly k (i+1)=s.partly k i:=by
 unfold D.Dsk.partly
 have h1:min (i+1) k.toNat=min i k.toNat:=by omega
 rw[h1]
theorem D.partly_end (s:D.Dsk) (k:Int):s.partly k s.pend.length=s.namesLeft k:=by
 unfold D.Dsk.partly D.Dsk.namesLeft
 by_cases h:s.pend.length≤k.toNat
 ·rw[Nat.min_eq_left h,List.take_of_length_le (Nat.le_refl _),List.take_of_length_le h]
 ·rw[Nat.min_eq_right (by omega)]
theorem D.partly_len (s:D.Dsk) (k:Int) (i:Nat) (_hi:i≤s.pend.length):(s.partly k i).length≤s.safe.length+s.pend.length:=by
 have:=D.namesLeft_len s (min i k.toNat:Nat)
 unfold D.Dsk.namesLeft at this
 rw[Int.toNat_natCast]at this
 exact this
theorem D.good_size {x:ByteArray} (h:D.good x=true):x.size≤64:=by
 unfold D.good at h
 simp only[Bool.and_eq_true,decide_eq_true_eq]at h
 exact h.2
section
variable {fa:Nat→Nat} {w:World} {B b:Nat} {l:D.NM}
theorem chg_calls (c:D.Chg) (v:Value) (hv:ChgV w B fa c v) (hn:c.nmd=true) (h:w.ownsMap Tryz.prog 9 D.ptrR b l.length (D.datum fa l)) (hl:l.length≤1099511627776) :
  (∃ x y,v=.func (.func 96) #[] #[x,y]∧Calls Tryz.prog 96 #[.map (some b),x,y] w (RetChg b fa (c.app l) w)) ∨
  (∃ x,v=.func (.func 75) #[] #[x]∧Calls Tryz.prog 75 #[.map (some b),x] w (RetChg b fa (c.app l) w)) ∨
  (∃ x y z,v=.func (.func 99) #[] #[x,y,z]∧Calls Tryz.prog 99 #[.map (some b),x,y,z] w (RetChg b fa (c.app l) w)):=by
 cases c with
 | put nm no =>
  obtain⟨bf,bn,rfl,_,_,h4,h5⟩:=hv
  exact .inl ⟨_,_,rfl,putChg_any nm no bf bn h hl (by have:=D.good_size (show D.good nm=true from hn);omega) h4 h5⟩
 | del nm =>
  obtain⟨bn,rfl,_,h3⟩:=hv
  exact .inr (.inl ⟨_,rfl,delChg_any nm bn h (by have:=D.good_size (show D.good nm=true from hn);omega) h3⟩)
 | ren x y no =>
  obtain⟨ba,bf,bb,rfl,_,_,_,h5,h6,h7⟩:=hv
  have hn2:D.good x=true∧D.good y=true:=by simpa [D.Chg.nmd] using hn
  exact .inr (.inr ⟨_,_,_,rfl,renChg_any x y no ba bf bb h hl (by have:=D.good_size hn2.1;omega) (by have:=D.good_size hn2.2;omega) h5 h6 h7⟩)
end
set_option maxRecDepth 100000 in
set_option maxHeartbeats 4000000 in
theorem left_any (B:Nat) (M:DM) (s:D.Dsk) (k:Int) (KA:Option Addr) (keep:List Int) (n kc:Nat) (w:World) (h:DkAt B M s w) (ok:s.Ok) (nmd:s.Nmd) (sml:s.Sml) (hps:s.safe.length+s.pend.length≤1073741824) (hkn:keep.length=n) (_hn:n≤1099511627776) (hkx:Rd w KA n 1 (icells keep)) :
  Calls Tryz.prog 20 #[.pointer (some ⟨M.d,0,none⟩),.agg #[.int .i64 k,.slice KA n kc]] w (RetFiles w (s.left k keep)):=by
 have HD:=Lib.hid h
 have HOK:=Lib.hid ok
 have HNM:=Lib.hid nmd
 have HSM:=Lib.hid sml
 have HKX:=Lib.hid hkx
 have HKN:=Lib.hid hkn
 have HPS:=Lib.hid hps
 have hbw:Below w.heap.size w (w.alloc (.cells #[.int .i64 k,.slice KA n kc] 53)):=(Below.refl _ _).alloc (Nat.le_refl _) _
 have HB0:=Lib.hid hbw
 have HF0:=Lib.hid (Blk.new w #[.int .i64 k,.slice KA n kc] 53)
 have hsz0:(w.alloc (.cells #[.int .i64 k,.slice KA n kc] 53)).heap.size=w.heap.size+1:=World.size_alloc ..
 have HD0:=Lib.hid (h.below hbw)
 have HCL:=Lib.hid (cloneM_any M s.safe M.mS (w.alloc (.cells #[.int .i64 k,.slice KA n kc] 53)) HD0.out.safe)
 have hpl:=sml.pend
 obtain⟨y0,y1,y2,y3,y4,y5,y6,y7⟩:=HD0.out.cells
 clear h ok nmd sml hkx hkn hps hbw y0 y2 y3 y4 y5 y6 y7
 go_enter Tryz.func20,Tryz.ntmps20
 go_wp2_with fail
 refine HCL.out.mono ?_
 rintro e w1 ⟨rfl,hm1,hb1,hlt1⟩
 rw[hsz0]at hm1 hb1 hlt1 ⊢
 rw[← hsz0]at hb1
 have HB1:=Lib.hid (below_then HB0.out.size HB0.out hb1)
 have HF1:=Lib.hid (HF0.out.below hb1)
 have HD1:=Lib.hid (HD0.out.below hb1)
 have HM1:=Lib.hid hm1
 obtain⟨y0,y1,y2,y3,y4,y5,y6,y7⟩:=HD1.out.cells
 clear hm1 hb1 HB0 HF0 HD0 HCL hsz0 y0 y1 y3 y4 y5 y6 y7
 obtain⟨PA,hPA⟩:∃ PA,M.PA=PA:=⟨_,rfl⟩
 rw[hPA]at y2
 have HPA:=Lib.hid hPA
 clear hPA
 go_wp2
 go_loopw [23] (fun i wr=>∃ j:Nat,j≤s.pend.length∧i=.int .i64 j∧wr.ownsMap Tryz.prog 9 D.ptrR (w.heap.size+1) (s.partly k j).length (D.datum M.fa (s.partly k j))∧w1.grownBy wr (some (w.heap.size+1))) (fun i _=>s.pend.length - (intOf i).toNat)
 case atStart=>exact⟨0,Nat.zero_le _,rfl,by rw[D.partly_zero];exact HM1.out,⟨rfl,rfl,rfl,Nat.le_refl _,fun _ _ _=>rfl⟩⟩
 case round =>
  obtain⟨j,hj,rfl,hm,hg⟩:=hrel
  have HM:=Lib.hid hm
  have HG:=Lib.hid hg
  have hBw:Below w.heap.size w wr:=HB1.out.grown hg HB1.out.size (fun q hq=>by cases hq;omega)
  have HB:=Lib.hid hBw
  have hD:=HD.out.below hBw
  have hF:Blk wr w.heap.size #[.int .i64 k,.slice KA n kc] 53:=HF1.out.keptG hg (by simp)
  clear hm hg hBw y2
  by_cases hlt:j < s.pend.length
  ·obtain⟨v,hv,hch⟩:=hD.chg.at_ hlt
   obtain⟨b,o,u,hPA,hb,hu,hc⟩:=hD.pend.rd.at1 hlt
   rw[hv]at hu
   obtain rfl:=Option.some.inj hu
   rw[HPA.out]at hPA
   subst hPA
   have z0:=hF.cell 0 rfl
   have HC:=Lib.hid (chg_calls s.pend[j] v hch (HNM.out.pend _ (List.getElem_mem hlt)) HM.out (by have:=D.partly_len s k j hj;have:=HPS.out;omega))
   clear hv hch hu hb hF hD
   by_cases hk:(j:Int) < k
   ·have HST:=Lib.hid (D.partly_step hlt hk)
    rcases HC.out with ⟨x,y,rfl,hc2⟩ | ⟨x,rfl,hc2⟩ | ⟨x,y,z,rfl,hc2⟩
    all_goals
     have HC2:=Lib.hid hc2
     clear hc2 HC
     go_wp2_with fail
     refine HC2.out.mono ?_
     rintro e w2 ⟨rfl,hm2,hg2⟩
     rw[← HST.out]at hm2
     go_wp2
     go_roundw
     case rel=>exact⟨j+1,by omega,by go_num,hm2,HG.out.trans hg2⟩
     case measure=>simp [intOf];omega
   ·have HST:=Lib.hid (D.partly_stay (s:=s) hk)
    clear HC
    go_wp2
    go_roundw
    case rel=>exact⟨j+1,by omega,by go_num,by rw[HST.out];exact HM.out,HG.out⟩
    case measure=>simp [intOf];omega
  ·obtain rfl:j=s.pend.length:=by omega
   have HL:Hid (wr.ownsMap Tryz.prog 9 D.ptrR (w.heap.size+1) (s.namesLeft k).length (D.datum M.fa (s.namesLeft k))):=Lib.hid (by rw[← D.partly_end];exact HM.out)
   have hup:=D.up_left HOK.out k
   have hin:=D.namesLeft_in HOK.out HNM.out k
   have hll:=D.namesLeft_len s k
   have hleft:s.left k keep=(s.namesLeft k).map fun p=>(p.1,(s.data.getD p.2 []).take (s.keepN keep p.2)):=rfl
   have HLF:=Lib.hid hleft
   clear hleft
   generalize s.namesLeft k=L at *
   have HUP:=Lib.hid hup
   have HIN:=Lib.hid hin
   have hL30:L.length≤1073741824:=by have:=HPS.out;omega
   have HD2:=Lib.hid hD
   have HF2:=Lib.hid hF
   have HKE:=Lib.hid (fun u=>keysD_any (some (w.heap.size+1)) u)
   clear hup hin hll hD hF HM HPA HM1 HF1 HD1 HB1 HG hj hlt
   obtain⟨wo,rfl⟩:∃ wo:World,wo=wr:=⟨_,rfl⟩
   go_wp2_with fail
   refine (HKE.out _).mono ?_
   rintro e w2 ⟨rfl,rfl⟩
   have hb2:Below wo.heap.size wo (wo.alloc (.cells #[.map (some (w.heap.size+1))] 67)):=(Below.refl _ _).alloc (Nat.le_refl _) _
   have HSO:=Lib.hid (sortedD_any M.fa L wo.heap.size (w.heap.size+1) (wo.alloc (.cells #[.map (some (w.heap.size+1))] 67)) (by simp) ((Blk.new wo _ _).cell 0 rfl) (HL.out.kept (show wo.grownBy _ none from⟨hb2.os,hb2.tape,hb2.output,hb2.size,fun q hq _=>hb2.block q hq⟩) (by simp)) HUP.out hL30)
   have HB2:=Lib.hid (below_then HB.out.size HB.out hb2)
   go_wp2_with fail
   refine HSO.out.mono ?_
   rintro e w3 ⟨A3,c3,rfl,hr3,hb3⟩
   have hb23:=below_then hb2.size hb2 hb3
   have HB3:=Lib.hid (below_then HB2.out.size HB2.out hb3)
   have HD3:=Lib.hid (HD2.out.below hb23)
   have HF3:=Lib.hid (HF2.out.below hb23)
   have HL3:Hid (w3.ownsMap Tryz.prog 9 D.ptrR (w.heap.size+1) L.length (D.datum M.fa L)):=Lib.hid (HL.out.kept (show wo.grownBy w3 none from⟨hb23.os,hb23.tape,hb23.output,hb23.size,fun q hq _=>hb23.block q hq⟩) (by simp))
   have HR3:=Lib.hid hr3
   have hlm:(L.map (·.1)).length=L.length:=List.length_map _
   rw[hlm]at HR3 ⊢
   clear hb2 hb3 hb23 hr3 HSO HKE HB2 HL HD2 HF2 HB hlm
   go_wp2
   go_loopw [8,40] (fun x i wr=>∃ (j:Nat) (A:Option Addr) (c:Nat) (l:List FP),j≤L.length∧x=.slice A j c∧i=.int .i64 j∧l.length=j∧l.map FP.x=(L.take j).map (fun p=>(p.1,(s.data.getD p.2 []).take (s.keepN keep p.2)))∧FRow wr w3.heap.size A c l∧Below w3.heap.size w3 wr) (fun _ i _=>L.length - (intOf i).toNat)
   case atStart=>exact⟨0,none,0,[],Nat.zero_le _,rfl,rfl,rfl,rfl,FRow.nil _ _ _,Below.refl _ _⟩
   case round =>
    obtain⟨j,A,c,l,hj,rfl,rfl,hlj,hmap,hrow,hb⟩:=hrel
    subst hlj
    obtain⟨wo2,rfl⟩:∃ wo2:World,wo2=wr:=⟨_,rfl⟩
    have HB:=Lib.hid hb
    have HROW:=Lib.hid hrow
    have HMAP:=Lib.hid hmap
    by_cases hlt:l.length < L.length
    ·obtain⟨nb,nofs,rfl,hnb,y0⟩:=(HR3.out.rd.below hb).str (k:=l.length) (l:=L.map (·.1)) hlt (List.length_map _)
     rw[List.getElem_map]at y0
     obtain⟨hno,hgood⟩:=HIN.out _ (List.getElem_mem hlt)
     have hfind:=D.mem_find HUP.out (List.getElem_mem hlt)
     have HTK:Hid ((L.take (l.length+1)).map (fun p=>(p.1,(s.data.getD p.2 []).take (s.keepN keep p.2)))=(L.take l.length).map (fun p=>(p.1,(s.data.getD p.2 []).take (s.keepN keep p.2)))++[(L[l.length].1,(s.data.getD L[l.length].2 []).take (s.keepN keep L[l.length].2))]):=Lib.hid (by rw[List.take_succ_eq_append_getElem hlt,List.map_append];rfl)
     generalize L[l.length]'hlt=p at *
     obtain⟨nm,no⟩:=p
     dsimp only at hno hgood hfind y0 HTK
     have hmW:wo2.ownsMap Tryz.prog 9 D.ptrR (w.heap.size+1) L.length (D.datum M.fa L):=HL3.out.kept (show w3.grownBy wo2 none from⟨hb.os,hb.tape,hb.output,hb.size,fun q hq _=>hb.block q hq⟩) (by simp)
     have hlk:=names_look hmW nm (by have:=D.good_size hgood;simp only[maxLen];omega)
     rw[hfind]at hlk
     dsimp only[D.ptrOf]at hlk
     have hD4:=HD3.out.below hb
     have hfl:=hD4.files no hno
     obtain⟨z0,z1,z2⟩:=hfl.blk.cells3
     have HROWF:=Lib.hid hfl.row
     obtain⟨f0,f1⟩:=(HF3.out.below hb).cells2
     have hfs:=HOK.out.firms no hno
     have hsz:=HSM.out.size no
     have hkx4:=(HKX.out.below HB3.out).below hb
     have hdl:(s.data.getD no []).length=s.size no:=rfl
     have hkn:s.keepN keep no=s.firm.getD no 0+(if no < keep.length then max 0 (min (keep.getD no 0) ((s.size no:Int) - s.firm.getD no 0)) else 0).toNat:=rfl
     rw[HKN.out]at hkn
     generalize s.keepN keep no=N at *
     generalize s.data.getD no []=bs at *
     generalize s.size no=sz at *
     generalize s.firm.getD no 0=fm at *
     clear hb hrow hmap hmW hfl hD4 hgood hfind
     by_cases hk:no < n
     ·have hki:(no:Int) < n:=by omega
      rw[if_pos hk]at hkn
      obtain⟨kb,ko,u,rfl,hkb,hu,hkc⟩:=hkx4.at1 hk
      have hul:no < keep.length:=by have:=HKN.out;omega
      have hu2:u=.int .i64 (keep.getD no 0):=by
       unfold icells at hu
       rw[List.getElem?_map,List.getElem?_eq_getElem hul]at hu
       simp only[Option.map_some,Option.some.injEq]at hu
       rw[← hu]
       simp [List.getD,hul]
      subst hu2
      generalize keep.getD no 0=z at *
      have HKN2:=Lib.hid hkn
      clear hkn hu hkx4
      go_upto_region 14 with fail
      go_region
      go_upto_region 15 with fail
      go_region
      have hNs:N≤sz:=by have:=HKN2.out;omega
      rw[show (fm:Int)+max 0 (min z ((sz:Int) - fm))=(N:Int) by have:=HKN2.out;omega]
      obtain⟨wz,hwz⟩:∃ wz,wo2.drew.drew=wz:=⟨_,rfl⟩
      have HBZ:Hid (Below w3.heap.size w3 wz):=Lib.hid (by rw[← hwz];exact HB.out.drew.drew)
      have HRZ:Hid (FRow wz w3.heap.size A c l):=Lib.hid (by rw[← hwz];exact⟨HROW.out.row,HROW.out.all⟩)
      have HFZ:Hid (Row wz B 5 1 (M.da no) sz (M.dc no) (bcells bs)):=Lib.hid (by rw[← hwz];exact HROWF.out)
      have x1:wz.cell? ⟨M.fa no,1,none⟩=some (.slice (M.da no) sz (M.dc no)):=by rw[← hwz];exact z1
      rw[hwz]
      clear hwz z0 z1 z2 f0 f1 y0 hlk HB HROW HROWF
      have hcap:=HFZ.out.cap.1
      have hcapN:(N:Int)≤(M.dc no:Nat):=by omega
      have hN0:0≤(N:Int):=by omega
      obtain⟨tb,htb⟩:∃ tb,bs.take N=tb:=⟨_,rfl⟩
      have htl:tb.length=N:=by rw[← htb,List.length_take];omega
      have HCL:=Lib.hid (cloneD_any (M.da no) N (M.dc no) tb wz (by omega) htl (fun h=>by have:=nilD HFZ.out h;omega) (by rw[← htb];exact HFZ.out.rd.upto hNs))
      rw[htb]at HTK
      rw[htl]at HCL
      have HTL:=Lib.hid htl
      clear htb htl
      go_wp2_with fail
      refine HCL.out.mono ?_
      rintro e w5 ⟨A5,c5,rfl,hr5,hb5⟩
      have hbe:Below w5.heap.size w5 (w5.alloc (.cells #[.string nm,.slice A5 N c5] 73)):=(Below.refl _ _).alloc (Nat.le_refl _) _
      have HR5:=Lib.hid ((HRZ.out.below hb5).below hbe)
      have HX5:=Lib.hid ((hr5.mono HBZ.out.size).below hbe)
      have HB5:=Lib.hid (below_then HBZ.out.size HBZ.out (below_then hb5.size hb5 hbe))
      have HN5:Hid (Rd (w5.alloc (.cells #[.string nm,.slice A5 N c5] 73)) (some ⟨w5.heap.size,0,none⟩) 1 2 (fpcells [⟨nm,tb,A5,c5⟩])):=Lib.hid (by
       have:=Rd.new2 w5 73 (.string nm) (.slice A5 N c5)
       rw[← HTL.out]at this ⊢
       exact this)
      clear hr5 hb5 hbe HCL
      go_wp2_with (at_builtin;refine appFile _ rfl _ _ rfl w3.heap.size A l.length c l rfl HR5.out.row (some ⟨w5.heap.size,0,none⟩) 1 1 [⟨nm,tb,A5,c5⟩] rfl HN5.out (by omega) (HB5.out.size) ?_;intro A6 c6 w6 hr6 ha6)
      have hb6:=ha6.below HR5.out.row HB5.out.size
      go_roundw
      case rel=>exact⟨l.length+1,A6,c6,l++[⟨nm,tb,A5,c5⟩],by omega,rfl,by go_num,by simp,by rw[List.map_append,HMAP.out,HTK.out]<;>rfl,HR5.out.snoc (p:=⟨nm,tb,A5,c5⟩) (by show Row _ _ _ _ A5 tb.length c5 (bcells tb);rw[HTL.out];exact HX5.out) hr6 ha6,HB5.out.trans hb6⟩
      case measure=>simp [intOf];omega
     ·have hki:¬ (no:Int) < n:=by omega
      rw[if_neg hk]at hkn
      obtain rfl:N=fm:=by simpa using hkn
      have hNs:=hfs
      clear hkn hkx4
      go_upto_region 14 with fail
      go_region
      obtain⟨wz,hwz⟩:∃ wz,wo2.drew=wz:=⟨_,rfl⟩
      have HBZ:Hid (Below w3.heap.size w3 wz):=Lib.hid (by rw[← hwz];exact HB.out.drew)
      have HRZ:Hid (FRow wz w3.heap.size A c l):=Lib.hid (by rw[← hwz];exact⟨HROW.out.row,HROW.out.all⟩)
      have HFZ:Hid (Row wz B 5 1 (M.da no) sz (M.dc no) (bcells bs)):=Lib.hid (by rw[← hwz];exact HROWF.out)
      have x1:wz.cell? ⟨M.fa no,1,none⟩=some (.slice (M.da no) sz (M.dc no)):=by rw[← hwz];exact z1
      rw[hwz]
      clear hwz z0 z1 z2 f0 f1 y0 hlk HB HROW HROWF
      have hcap:=HFZ.out.cap.1
      have hcapN:(N:Int)≤(M.dc no:Nat):=by omega
      have hN0:0≤(N:Int):=by omega
      obtain⟨tb,htb⟩:∃ tb,bs.take N=tb:=⟨_,rfl⟩
      have htl:tb.length=N:=by rw[← htb,List.length_take];omega
      have HCL:=Lib.hid (cloneD_any (M.da no) N (M.dc no) tb wz (by omega) htl (fun h=>by have:=nilD HFZ.out h;omega) (by rw[← htb];exact HFZ.out.rd.upto hNs))
      rw[htb]at HTK
      rw[htl]at HCL
      have HTL:=Lib.hid htl
      clear htb htl
      go_wp2_with fail
      refine HCL.out.mono ?_
      rintro e w5 ⟨A5,c5,rfl,hr5,hb5⟩
      have hbe:Below w5.heap.size w5 (w5.alloc (.cells #[.string nm,.slice A5 N c5] 73)):=(Below.refl _ _).alloc (Nat.le_refl _) _
      have HR5:=Lib.hid ((HRZ.out.below hb5).below hbe)
      have HX5:=Lib.hid ((hr5.mono HBZ.out.size).below hbe)
      have HB5:=Lib.hid (below_then HBZ.out.size HBZ.out (below_then hb5.size hb5 hbe))
      have HN5:Hid (Rd (w5.alloc (.cells #[.string nm,.slice A5 N c5] 73)) (some ⟨w5.heap.size,0,none⟩) 1 2 (fpcells [⟨nm,tb,A5,c5⟩])):=Lib.hid (by
       have:=Rd.new2 w5 73 (.string nm) (.slice A5 N c5)
       rw[← HTL.out]at this ⊢
       exact this)
      clear hr5 hb5 hbe HCL
      go_wp2_with (at_builtin;refine appFile _ rfl _ _ rfl w3.heap.size A l.length c l rfl HR5.out.row (some ⟨w5.heap.size,0,none⟩) 1 1 [⟨nm,tb,A5,c5⟩] rfl HN5.out (by omega) (HB5.out.size) ?_;intro A6 c6 w6 hr6 ha6)
      have hb6:=ha6.below HR5.out.row HB5.out.size
      go_roundw
      case rel=>exact⟨l.length+1,A6,c6,l++[⟨nm,tb,A5,c5⟩],by omega,rfl,by go_num,by simp,by rw[List.map_append,HMAP.out,HTK.out]<;>rfl,HR5.out.snoc (p:=⟨nm,tb,A5,c5⟩) (by show Row _ _ _ _ A5 tb.length c5 (bcells tb);rw[HTL.out];exact HX5.out) hr6 ha6,HB5.out.trans hb6⟩
      case measure=>simp [intOf];omega
    ·have hjL:l.length=L.length:=by omega
     have hall:l.map FP.x=L.map (fun p=>(p.1,(s.data.getD p.2 []).take (s.keepN keep p.2))):=by rw[HMAP.out,hjL,List.take_length]
     have HALL:=Lib.hid hall
     have hi:¬ (l.length:Int) < L.length:=by omega
     clear hb hrow hmap hall y1
     go_wp2
     go_ret
     rw[HLF.out]
     exact⟨A,c,l,by rw[List.length_map]<;>rfl,HALL.out,HROW.out.mono HB3.out.size,HB3.out.trans (HB.out.mono HB3.out.size)⟩
end Go.Proofs.YtkempjcphpnocaaGreatDoor
