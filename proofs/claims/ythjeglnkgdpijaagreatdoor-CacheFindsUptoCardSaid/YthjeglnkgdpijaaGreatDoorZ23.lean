/- The stand-in disk in memory: which blocks it has, what they hold, what a step may turn. An argument that is a list of fields, a string or a struct of these, opened to what a walk reads; its bulk; and read again behind the call. A parameter that is a response, opened. A parameter that is a request, a target, a list of bytes, opened. A parameter that is an entry, opened. Conditions: as each theorem states them. -/
import Derived.Test.YthjeglnkgdpijaaGreatDoorZ02
import Derived.Lib.SmallJoins
set_option maxRecDepth 100000
namespace Go.Proofs.YthjeglnkgdpijaaGreatDoor
open Go Go.RowKit Go.Maps
def Tag (w:World) (k:Nat) (t:TypeId):Prop:=∃ cs l,w.heap[k]?=some (.cells cs t l)
def aOY (w:World) (k:Nat):Prop:=∃ es cl,w.heap[k]?=some (.map es cl)
section
variable {w w':World} {b k m:Nat} {cs:Array Value} {t t' e:TypeId} {r:Option Nat} {A:Option Addr} {base s n c:Nat} {xs:List Value}
theorem Tag.ne (h:Tag w k t) (h':Tag w m t') (hn:t≠t'):k≠m:=by
 rintro rfl
 obtain⟨c1,l1,e1⟩:=h
 obtain⟨c2,l2,e2⟩:=h'
 rw[e1]at e2
 injection e2 with e2
 injection e2 with _ e3
 exact hn e3
theorem Tag.map (h:Tag w k t) (h':aOY w m):k≠m:=by
 rintro rfl
 obtain⟨c1,l1,e1⟩:=h
 obtain⟨c2,l2,e2⟩:=h'
 rw[e1]at e2
 cases e2
theorem Blk.tag (h:Blk w b cs t):Tag w b t:=⟨_,_,h⟩
theorem aC {K:TypeId} {R:Value→Option (DataW Unit × List MemPlace)} {D:DataW Unit} (h:w.ownsMap Tryz.prog K R b n D):aOY w b:=by
 obtain⟨es,cl,hb,_⟩:=h
 exact⟨es,cl,hb⟩
theorem Row.tag (h:Row w base e s A n c xs) (hk:ownB A c=some k):Tag w k e:=by
 unfold ownB at hk
 split at hk
 ·cases hk
 ·rename_i hc
  rcases h with h | h
  ·rcases h.2 with ⟨hv,_⟩ | ⟨g,cap,cur,hv,_,hg,_⟩
   ·injection hv with hA
    rw[hA]at hk
    cases hk
   ·injection hv with hA
    rw[hA]at hk
    obtain rfl:g=k:=by simpa using hk
    exact⟨_,_,hg⟩
  ·exact absurd h.2.1 hc
theorem Blk.keptG (h:Blk w b cs t) (hg:w.grownBy w' r) (hne:r≠some b):Blk w' b cs t:=(hg.block b h.lt (fun e=>hne e.symm)).trans h
theorem Row.keptG (h:Row w base e s A n c xs) (hg:w.grownBy w' r) (hne:∀ k,ownB A c=some k→r≠some k):Row w' base e s A n c xs:=by
 by_cases hc:c=0
 ·have hn:=h.cap.1
  have hn0:n=0:=by omega
  subst hn0
  exact .inr ⟨rfl,hc,List.eq_nil_of_length_eq_zero (by have:=h.len;simpa using this)⟩
 ·rcases h with h | h
  ·refine .inl (h.kept (row:=r) hg ?_)
   cases A with
   | none=>exact .inl rfl
   | some a =>
    refine .inr fun e=>hne a.block (by unfold ownB;rw[if_neg hc];rfl) ?_
    rw[← e]
    rfl
  ·exact .inr h
end
def aF8 {α β:Type} (R:α→β→Prop):List α→List β→Prop
 | [],[]=>True
 | a::l,b::m=>R a b∧aF8 R l m
 | _,_=>False
theorem aF8.imp {α β:Type} {R S:α→β→Prop}:∀ {l:List α} {m:List β},aF8 R l m→(∀ a b,R a b→S a b)→aF8 S l m
 | [],[],_,_=>trivial
 | _::_,_::_,h,hi=>⟨hi _ _ h.1,h.2.imp hi⟩
theorem aF8.len {α β:Type} {R:α→β→Prop}:∀ {l:List α} {m:List β},aF8 R l m→l.length=m.length
 | [],[],_=>rfl
 | _::_,_::_,h=>by rw[List.length_cons,List.length_cons,aF8.len h.2]
theorem aF8.snoc {α β:Type} {R:α→β→Prop}:∀ {l:List α} {m:List β} {a:α} {b:β},aF8 R l m→R a b→aF8 R (l++[a]) (m++[b])
 | [],[],_,_,_,h=>⟨h,trivial⟩
 | _::_,_::_,_,_,h,hr=>⟨h.1,h.2.snoc hr⟩
structure DM where
 d:Nat
 mN:Nat
 mS:Nat
 PA:Option Addr
 pc:Nat
 pv:List Value
 fa:Nat→Nat
 da:Nat→Option Addr
 dc:Nat→Nat
 FA:Option Addr
 fc:Nat
def rJ (w:World) (B:Nat) (fa:Nat→Nat):D.Chg→Value→Prop
 | .put nm no,v=>∃ bf bn,v=.func (.func 134) #[] #[.pointer (some ⟨bf,0,none⟩),.pointer (some ⟨bn,0,none⟩)]∧B≤bf∧B≤bn ∧
   Blk w bf #[.pointer (some ⟨fa no,0,none⟩)] 98∧Blk w bn #[.string nm] 9
 | .del nm,v=>∃ bn,v=.func (.func 114) #[] #[.pointer (some ⟨bn,0,none⟩)]∧B≤bn∧Blk w bn #[.string nm] 9
 | .ren a b no,v=>∃ ba bf bb,v=.func (.func 141) #[] #[.pointer (some ⟨ba,0,none⟩),.pointer (some ⟨bf,0,none⟩),.pointer (some ⟨bb,0,none⟩)]∧B≤ba∧B≤bf∧B≤bb ∧
   Blk w ba #[.string a] 9∧Blk w bf #[.pointer (some ⟨fa no,0,none⟩)] 98∧Blk w bb #[.string b] 9
def dS (l:List Int):List Value:=l.map fun z=>.int .i64 z
structure aSI (B:Nat) (M:DM) (s:D.Dsk) (no:Nat) (w:World):Prop where
 blk:Blk w (M.fa no) #[.int .i64 no,.slice (M.da no) (s.size no) (M.dc no),.int .i64 (s.firm.getD no 0:Nat)] 100
 row:Row w B 5 1 (M.da no) (s.size no) (M.dc no) (aB (s.data.getD no []))
 ge:B≤M.fa no
structure dD (B:Nat) (M:DM) (s:D.Dsk) (w:World):Prop where
 blk:Blk w M.d #[.map (some M.mN),.map (some M.mS),.slice M.PA s.pend.length M.pc,.int .i64 s.data.length,.int .i64 s.room,.slice M.FA s.fails.length M.fc,.int .i64 s.power,.int .i64 s.n] 95
 now:w.ownsMap Tryz.prog 9 D.jA M.mN s.now.length (D.datum M.fa s.now)
 safe:w.ownsMap Tryz.prog 9 D.jA M.mS s.safe.length (D.datum M.fa s.safe)
 ne:M.mN≠M.mS
 pend:Row w B 200 1 M.PA s.pend.length M.pc M.pv
 chg:aF8 (rJ w B M.fa) s.pend M.pv
 fails:Row w B 3 1 M.FA s.fails.length M.fc (dS s.fails)
 files:∀ no,no < s.data.length→aSI B M s no w
 apart:∀ i j,i < s.data.length→j < s.data.length→i≠j→M.fa i≠M.fa j∧∀ k,ownB (M.da i) (M.dc i)=some k→ownB (M.da j) (M.dc j)≠some k
 ge:B≤M.d∧B≤M.mN∧B≤M.mS
def DM.foot (M:DM) (s:D.Dsk) (k:Nat):Prop:=k=M.d∨k=M.mN∨k=M.mS∨ownB M.PA M.pc=some k∨∃ no,no < s.data.length∧(k=M.fa no∨ownB (M.da no) (M.dc no)=some k)
structure Stepped (M:DM) (s:D.Dsk) (w:World) (M':DM) (s':D.Dsk) (w':World):Prop where
 os:w'.os=w.os
 tape:w'.tape=w.tape
 output:w'.output=w.output
 size:w.heap.size≤w'.heap.size
 block:∀ k,k < w.heap.size→¬ M.foot s k→w'.heap[k]?=w.heap[k]?
 foot:∀ k,M'.foot s' k→M.foot s k∨w.heap.size≤k
 same:M'.d=M.d
theorem Stepped.refl (M:DM) (s:D.Dsk) (w:World):Stepped M s w M s w:=⟨rfl,rfl,rfl,zA _,fun _ _ _=>rfl,fun _ h=>.inl h,rfl⟩
theorem Stepped.trans {M1 M2 M3:DM} {s1 s2 s3:D.Dsk} {w1 w2 w3:World} (h:Stepped M1 s1 w1 M2 s2 w2) (k:Stepped M2 s2 w2 M3 s3 w3):Stepped M1 s1 w1 M3 s3 w3 :=
 ⟨k.os.trans h.os,k.tape.trans h.tape,k.output.trans h.output,bD h.size k.size,fun i hi hn=>(k.block i (Nat.lt_of_lt_of_le hi h.size) (fun hf=>by
  rcases h.foot i hf with h1 | h1
  ·exact hn h1
  ·omega)).trans (h.block i hi hn),fun i hf=>by
  rcases k.foot i hf with h1 | h1
  ·exact h.foot i h1
  ·exact .inr (bD h.size h1),k.same.trans h.same⟩
theorem Stepped.below {M:DM} {s:D.Dsk} {w w':World} (h:Below w.heap.size w w'):Stepped M s w M s w':=⟨h.os,h.tape,h.output,h.size,fun k hk _=>h.block k hk,fun _ h=>.inl h,rfl⟩
section
variable {B:Nat} {M:DM} {s:D.Dsk} {w w':World} {r:Option Nat}
theorem rJ.kept {fa:Nat→Nat} {c:D.Chg} {v:Value} (h:rJ w B fa c v) (hg:w.grownBy w' r) (hne:∀ k t,r=some k→Tag w k t→t≠98∧t≠9):rJ w' B fa c v:=by
 have hb:∀ {b:Nat} {cs:Array Value} {t:TypeId},(t=98∨t=9)→Blk w b cs t→Blk w' b cs t:=fun ht hb=>hb.keptG hg (fun e=>by
  have:=hne _ _ e hb.tag
  rcases ht with rfl | rfl
  ·exact this.1 rfl
  ·exact this.2 rfl)
 cases c with
 | put nm no =>
  obtain⟨bf,bn,h1,h2,h3,h4,h5⟩:=h
  exact⟨bf,bn,h1,h2,h3,hb (.inl rfl) h4,hb (.inr rfl) h5⟩
 | del nm =>
  obtain⟨bn,h1,h2,h3⟩:=h
  exact⟨bn,h1,h2,hb (.inr rfl) h3⟩
 | ren a b no =>
  obtain⟨ba,bf,bb,h1,h2,h3,h4,h5,h6,h7⟩:=h
  exact⟨ba,bf,bb,h1,h2,h3,h4,hb (.inr rfl) h5,hb (.inl rfl) h6,hb (.inr rfl) h7⟩
theorem dD.below (h:dD B M s w) (hb:Below w.heap.size w w'):dD B M s w':=by
 have hg:w.grownBy w' none:=⟨hb.os,hb.tape,hb.output,hb.size,fun k hk _=>hb.block k hk⟩
 exact⟨h.blk.below hb,h.now.kept hg (by simp),h.safe.kept hg (by simp),h.ne,h.pend.below hb,h.chg.imp (fun c v hc=>hc.kept hg (fun k t e=>by cases e)),h.fails.below hb,
  fun no hn=>⟨(h.files no hn).blk.below hb,(h.files no hn).row.below hb,(h.files no hn).ge⟩,h.apart,h.ge⟩
theorem dD.cells (h:dD B M s w):w.cell? ⟨M.d,0,none⟩=some (.map (some M.mN))∧w.cell? ⟨M.d,1,none⟩=some (.map (some M.mS))∧w.cell? ⟨M.d,2,none⟩=some (.slice M.PA s.pend.length M.pc)∧w.cell? ⟨M.d,3,none⟩=some (.int .i64 s.data.length) ∧
  w.cell? ⟨M.d,4,none⟩=some (.int .i64 s.room)∧w.cell? ⟨M.d,5,none⟩=some (.slice M.FA s.fails.length M.fc)∧w.cell? ⟨M.d,6,none⟩=some (.int .i64 s.power)∧w.cell? ⟨M.d,7,none⟩=some (.int .i64 s.n) :=
 ⟨h.blk.cell 0 rfl,h.blk.cell 1 rfl,h.blk.cell 2 rfl,h.blk.cell 3 rfl,h.blk.cell 4 rfl,h.blk.cell 5 rfl,h.blk.cell 6 rfl,h.blk.cell 7 rfl⟩
theorem dD.count (h:dD B M s w) (n:Int):dD B M { s with n:=n } (w.setCell ⟨M.d,7,none⟩ (.int .i64 n)):=by
 have hg:=aT w M.d 7 (.int .i64 n)
 have hT:=h.blk.tag
 have hne:∀ k t,some M.d=some k→Tag w k t→t≠98∧t≠9:=fun k t e ht=>by
  cases e
  obtain⟨c1,l1,e1⟩:=hT
  obtain⟨c2,l2,e2⟩:=ht
  rw[e1]at e2
  injection e2 with e2
  injection e2 with _ e3
  subst e3
  decide
 refine⟨h.blk.set 7 _,h.now.kept hg (fun e=>hT.map (aC h.now) (by simpa using e.symm)),h.safe.kept hg (fun e=>hT.map (aC h.safe) (by simpa using e.symm)),h.ne,
  h.pend.keptG hg (fun k hk e=>(hT.ne (h.pend.tag hk) (by decide)) (by simpa using e)),h.chg.imp (fun c v hc=>hc.kept hg hne),h.fails.keptG hg (fun k hk e=>(hT.ne (h.fails.tag hk) (by decide)) (by simpa using e)),
  fun no hn=>⟨(h.files no hn).blk.keptG hg (fun e=>(hT.ne (h.files no hn).blk.tag (by decide)) (by simpa using e)),(h.files no hn).row.keptG hg (fun k hk e=>(hT.ne ((h.files no hn).row.tag hk) (by decide)) (by simpa using e)),(h.files no hn).ge⟩,
  h.apart,h.ge⟩
theorem Stepped.set {M:DM} {s s':D.Dsk} {w:World} {i:Nat} {x:Value} (hs:s'.data.length=s.data.length):Stepped M s w M s' (w.setCell ⟨M.d,i,none⟩ x) :=
 ⟨rfl,rfl,rfl,by rw[World.size_setCell];exact zA _,fun k _ hn=>by
  unfold World.setCell
  simp only[Array.getElem?_modify]
  rw[if_neg (fun e=>hn (.inl e.symm))],fun k hf=>.inl (by unfold DM.foot at *;rw[hs]at hf;exact hf),rfl⟩
end
end Go.Proofs.YthjeglnkgdpijaaGreatDoor
namespace Go.Proofs.YthjeglnkgdpijaaGreatDoor
open Go.ChangeShapes Go.WideShapes Go.ChangeAt Go.RowKit Go.Deep
theorem aMZ:laidOutB Tryz.prog=true:=by kernel_rfl
theorem fsz:(Tryz.prog.fieldsOf 60).size=2:=by kernel_rfl
theorem fs0:((Tryz.prog.fieldsOf 60)[0]?).map (fun f=>(f.type,f.offset))=some (9,0):=by kernel_rfl
theorem fs1:((Tryz.prog.fieldsOf 60)[1]?).map (fun f=>(f.type,f.offset))=some (9,1):=by kernel_rfl
theorem aOP:Tryz.prog.cellsOf 60=2:=by kernel_rfl
theorem cellsS:Tryz.prog.cellsOf 9=1:=by kernel_rfl
theorem aKY {α:Type} {a:Array α} (h:a.size=2):∃ x y,a=#[x,y]:=by
 obtain⟨l⟩:=a
 match l,h with
 | [x,y],_=>exact⟨x,y,rfl⟩
theorem aKA:∃ f0 f1:Field,Tryz.prog.underlying 60=some (.struct #[f0,f1])∧f0.type=9∧f0.offset=0∧f1.type=9∧f1.offset=1:=by
 obtain⟨f0,f1,h⟩:=aKY fsz
 have h0:=fs0
 have h1:=fs1
 rw[h]at h0 h1
 simp at h0 h1
 exact⟨f0,f1,by rw[← h];exact aB9,h0.1,h0.2,h1.1,h1.2⟩
section
variable {H:Type} {enc:TypeId × Value→H} {W:World} {base:Nat} {spare:Nat→Bool} {held:Bool}
theorem aGY {fuel:Nat} {cs:List Value} {x:DataW H × List MemPlace} (h:DataW.trod enc Tryz.prog W base spare held fuel 60 cs=some x) :
  ∃ f:FD,cs=[.string f.1,.string f.2]∧x.1=.agg [.lit (.string f.1.data.toList),.lit (.string f.2.data.toList)]:=by
 obtain⟨f0,f1,hs,t0,o0,t1,o1⟩:=aKA
 obtain⟨y0,y1,n,rfl,hl,h0,h1⟩:=trod_struct2 hs h
 rw[t0,o0,cellsS]at h0
 rw[t1,o1,cellsS]at h1
 rw[aOP]at hl
 obtain⟨s0,e0,rfl,_⟩:=DataW.trod_string Tryz.underlying9 h0
 obtain⟨s1,e1,rfl,_⟩:=DataW.trod_string Tryz.underlying9 h1
 refine⟨(s0,s1),?_,rfl⟩
 match cs,hl with
 | [a,b],_ =>
  simp at e0 e1
  rw[e0,e1]
theorem aH0 (f:FD):f.1.size+f.2.size+1≤Rows.uptoBulk (DataW.agg (H:=H) [.lit (.string f.1.data.toList),.lit (.string f.2.data.toList)]):=by
 simp only[Rows.uptoBulk,Rows.uptoBulkAll,Array.length_toList]
 have:f.1.size=f.1.data.size:=rfl
 have:f.2.size=f.2.data.size:=rfl
 omega
theorem aCM {D:Nat→DataW H} {g:Nat→FD}:∀ l:List Nat,(∀ i∈l,(g i).1.size+(g i).2.size+1≤Rows.uptoBulk (D i))→F.bulk (l.map g)≤Rows.uptoBulkAll (l.map D)
 | [],_=>by simp [F.bulk]
 | i::l,h=>by
  have h1:=h i (by simp)
  have h2:=aCM l (fun j hj=>h j (by simp [hj]))
  simp only[List.map_cons,F.bulk,Rows.uptoBulkAll]
  omega
theorem Rd.of_at {A:Addr} {n:Nat} {fs:List FD} (hl:fs.length=n) (h:∀ i (hi:i < fs.length),W.cell? (A.add (i * 2))=some (.string (fs[i]).1)∧W.cell? (A.add (i * 2+1))=some (.string (fs[i]).2)):Rd W (some A) n 2 (aJ fs):=by
 refine⟨by rw[jP,hl],fun hn=>?_⟩
 have h0:=(h 0 (by omega)).1
 have hspot:(A.add (0 * 2)).spot=none:=World.cell?_spot h0
 obtain⟨b,o,sp⟩:=A
 have:sp=none:=by cases sp<;>simp_all [Addr.add]
 subst this
 refine⟨b,o,rfl,World.block_lt_of_cell? W _ h0,fun j u hu=>?_⟩
 have hj:j < fs.length * 2:=by rw[← jP];exact (List.getElem?_eq_some_iff.1 hu).1
 have ea:∀ k,(⟨b,o,none⟩:Addr).add k=⟨b,o+k,none⟩:=fun k=>by unfold Addr.add;split<;>simp_all
 obtain⟨i,hi⟩:∃ i,j=i * 2∨j=i * 2+1:=⟨j / 2,by omega⟩
 rcases hi with rfl | rfl
 ·have hil:i < fs.length:=by omega
  have:=(h i hil).1
  rw[ea]at this
  rw[this]
  exact (nI fs i hil).1.symm.trans hu
 ·have hil:i < fs.length:=by omega
  have:=(h i hil).2
  rw[ea]at this
  rw[this]
  exact (nI fs i hil).2.symm.trans hu
theorem kK {A:Option Addr} {n c:Nat} {fuel:Nat} {x:DataW H × List MemPlace} (h:DataW.trod enc Tryz.prog W base (fun _=>true) held fuel 27 [.slice A n c]=some x) :
  ∃ fs:List FD,fs.length=n∧Rd W A n 2 (aJ fs)∧F.bulk fs≤Rows.uptoBulk x.1∧(A=none→n=0∧c=0):=by
 rcases open_slice Tryz.underlying27 h with ⟨h0,rfl⟩ | ⟨a,len,cap,m,k,D,Pl,hcs,_,hl,hm,hmm,rfl,hi⟩
 ·simp only[List.cons.injEq,Value.slice.injEq,and_true]at h0
  obtain⟨rfl,rfl,rfl⟩:=h0
  exact⟨[],rfl,Rd.nil _ _ _,by simp [F.bulk],fun _=>⟨rfl,rfl⟩⟩
 ·simp only[List.cons.injEq,Value.slice.injEq,and_true]at hcs
  obtain⟨rfl,rfl,rfl⟩:=hcs
  simp only[if_true]at hmm
  subst hmm
  have each:∀ i,∃ f:FD,i < n→W.cell? (a.add (i * 2))=some (.string f.1)∧W.cell? (a.add (i * 2+1))=some (.string f.2)∧D i=.agg [.lit (.string f.1.data.toList),.lit (.string f.2.data.toList)]:=by
   intro i
   by_cases hin:i < n
   ·obtain⟨cs',hc,ht⟩:=hi i (by omega)
    rw[aOP]at hc
    obtain⟨f,rfl,hx⟩:=aGY ht
    obtain⟨_,_,hat⟩:=World.cells?_some hc
    have h0:=hat 0 (by omega)
    have h1:=hat 1 (by omega)
    rw[Go.Deep.add_add]at h0 h1
    exact⟨f,fun _=>⟨h0,h1,hx⟩⟩
   ·exact⟨(⟨#[]⟩,⟨#[]⟩),fun h=>absurd h hin⟩
  obtain⟨g,hg⟩:∃ g:Nat→FD,∀ i,i < n→W.cell? (a.add (i * 2))=some (.string (g i).1)∧W.cell? (a.add (i * 2+1))=some (.string (g i).2)∧D i=.agg [.lit (.string (g i).1.data.toList),.lit (.string (g i).2.data.toList)] :=
   ⟨fun i=>(each i).choose,fun i=>(each i).choose_spec⟩
  refine⟨(List.range n).map g,by simp,Rd.of_at (by simp) (fun i hi=>?_),?_,fun h=>by cases h⟩
  ·rw[List.length_map,List.length_range]at hi
   have:=hg i hi
   simp only[List.getElem_map,List.getElem_range]
   exact⟨this.1,this.2.1⟩
  ·have:=aCM (D:=D) (g:=g) (List.range n) (fun i hi=>by
    have:=hg i (List.mem_range.1 hi)
    rw[this.2.2]
    exact aH0 _)
   simp only[Rows.uptoBulk]
   omega
theorem aDU {r:Reach} {b0:Nat} {v:Value} {d:DataW H} {p:List MemPlace} (hv:Value.okWide Tryz.prog W r b0 27 v) (h:DataW.Trod enc Tryz.prog W base (fun _=>true) held 27 v d p) :
  ∃ A n c fs,v=.slice A n c∧fs.length=n∧Rd W A n 2 (aJ fs)∧F.bulk fs≤Rows.uptoBulk d∧(A=none→n=0∧c=0):=by
 obtain⟨A,n,c,rfl⟩:=okWide_slice Tryz.underlying27 hv
 obtain⟨fuel,hf⟩:=h
 obtain⟨fs,h1,h2,h3,h4⟩:=kK (A:=A) (n:=n) (c:=c) hf
 exact⟨A,n,c,fs,rfl,h1,h2,h3,h4⟩
end
theorem again {H:Type} {enc:TypeId × Value→H} {t:TypeId} (hr:Tryz.prog.readableRec t=true) (hrow:t < Tryz.prog.types.size) {W W':World} {v:Value} {d:DataW H} {ps:List MemPlace}
  (h:DataW.Trod enc Tryz.prog W 0 (fun _=>true) true t v d ps) (hb:Below W.heap.size W W') (hlt:∀ x∈ps,x.block < W.heap.size) (sp:Nat→Bool) (hsp:∀ x∈ps,sp x.block=true) :
  DataW.Trod enc Tryz.prog W' 0 sp true t v d ps :=
 WideElems.Trod_stays aMZ hr hrow h (fun x hx=>hb.same (hlt x hx)) hsp
theorem aPI:(Tryz.prog.fieldsOf 38).size=4:=by kernel_rfl
theorem aPJ:Tryz.prog.underlying 38=some (.struct (Tryz.prog.fieldsOf 38)):=by kernel_rfl
theorem aGO:Tryz.prog.cellsOf 38=4:=by kernel_rfl
section
variable {H:Type} {enc:TypeId × Value→H} {W:World} {base:Nat} {held:Bool}
theorem sV {fuel:Nat} {v:Value} {x:DataW H × List MemPlace} (h:DataW.trod enc Tryz.prog W base (fun _=>true) held fuel 27 [v]=some x):∃ A n c,v=.slice A n c:=by
 rcases open_slice Tryz.underlying27 h with ⟨h0,_⟩ | ⟨a,len,cap,m,k,D,Pl,hcs,_⟩
 ·exact⟨_,_,_,by simpa using h0⟩
 ·exact⟨_,_,_,by simpa using hcs⟩
end
theorem cellsB:Tryz.prog.cellsOf 5=1:=by kernel_rfl
section
variable {H:Type} {enc:TypeId × Value→H} {W:World} {base:Nat} {held:Bool}
theorem Rd.of_bytes {A:Addr} {n:Nat} {bs:List UInt8} (hl:bs.length=n) (h:∀ i (hi:i < bs.length),W.cell? (A.add i)=some (.int .u8 (bs[i]).toNat)):Rd W (some A) n 1 (aB bs):=by
 refine⟨by simp [aB,hl],fun hn=>?_⟩
 have h0:=h 0 (by omega)
 have hspot:(A.add 0).spot=none:=World.cell?_spot h0
 obtain⟨b,o,sp⟩:=A
 have:sp=none:=by cases sp<;>simp_all [Addr.add]
 subst this
 refine⟨b,o,rfl,World.block_lt_of_cell? W _ h0,fun j u hu=>?_⟩
 have hj:j < bs.length:=by
  have:=(List.getElem?_eq_some_iff.1 hu).1
  simpa [aB] using this
 have ea:∀ k,(⟨b,o,none⟩:Addr).add k=⟨b,o+k,none⟩:=fun k=>by unfold Addr.add;split<;>simp_all
 have:=h j hj
 rw[ea]at this
 rw[this]
 simp [aB,hj]at hu
 rw[hu]
theorem aO7 {x:Int} (h:(Lit.int .u8 x).wf=true):((UInt8.ofNat x.toNat).toNat:Int)=x:=by
 have h1:IntKind.u8.min=0:=rfl
 have h2:IntKind.u8.max=255:=rfl
 simp only[Lit.wf,Bool.and_eq_true,decide_eq_true_eq]at h
 simp only[UInt8.toNat_ofNat']
 omega
theorem vJ (k:IntKind):∀ zs:List Int,Rows.uptoBulkAll (lits (H:=H) k zs)=zs.length
 | []=>rfl
 | z::zs=>by
  have:=vJ k zs
  unfold lits at this ⊢
  simp only[List.map_cons,Rows.uptoBulkAll,Rows.uptoBulk,List.length_cons]
  omega
theorem aEF {A:Option Addr} {n c:Nat} {fuel:Nat} {x:DataW H × List MemPlace} (h:DataW.trod enc Tryz.prog W base (fun _=>true) held fuel 39 [.slice A n c]=some x) :
  ∃ bs:List UInt8,bs.length=n∧Rd W A n 1 (aB bs)∧n≤c∧bs.length≤Rows.uptoBulk x.1∧(A=none→n=0∧c=0)∧(∀ a,A=some a→a.spot=none∨c=0):=by
 rcases open_ints Tryz.underlying39 Tryz.underlying5 cellsB h with ⟨h0,rfl⟩ | ⟨a,len,cap,zs,hcs,_,hl,hm,hz,rfl,hcell,hwf⟩
 ·simp only[List.cons.injEq,Value.slice.injEq,and_true]at h0
  obtain⟨rfl,rfl,rfl⟩:=h0
  exact⟨[],rfl,Rd.nil _ _ _,zA _,by simp,fun _=>⟨rfl,rfl⟩,fun a h=>by cases h⟩
 ·simp only[List.cons.injEq,Value.slice.injEq,and_true]at hcs
  obtain⟨rfl,rfl,rfl⟩:=hcs
  simp only[if_true]at hz
  refine⟨(zs.take n).map fun z=>UInt8.ofNat z.toNat,by simp;omega,Rd.of_bytes (by simp;omega) (fun i hi=>?_),hl,?_,(fun h=>by cases h),fun a' h=>?_⟩
  ·have hi':i < n:=by simp at hi;omega
   rw[hcell i (by omega)]
   have e:zs.getD i 0=zs[i]'(by omega):=by simp [List.getD,List.getElem?_eq_getElem (show i < zs.length by omega)]
   rw[e]
   simp only[List.getElem_map,List.getElem_take]
   rw[aO7 (hwf _ (List.getElem_mem _))]
  ·simp only[Rows.uptoBulk,vJ,List.length_map]
   omega
  ·cases h
   rcases Nat.eq_zero_or_pos c with h0 | h0
   ·exact .inr h0
   ·have h1:=World.cell?_spot (hcell 0 (by omega))
    obtain⟨b,o,sp⟩:=a
    left
    cases sp<;>simp_all [Addr.add]
end
theorem aNC:Tryz.prog.underlying 41=some (.struct (Tryz.prog.fieldsOf 41)):=by kernel_rfl
theorem uQ:Tryz.prog.cellsOf 41=9:=by kernel_rfl
theorem jQ:(Tryz.prog.fieldsOf 41).map (fun f=>(f.type,f.offset))=#[(9,0),(9,1),(38,2),(39,6),(3,7),(3,8)]:=by kernel_rfl
theorem rP:(Tryz.prog.fieldsOf 38).map (fun f=>(f.type,f.offset))=#[(3,0),(9,1),(3,2),(27,3)]:=by kernel_rfl
theorem cells_one:Tryz.prog.cellsOf 9=1∧Tryz.prog.cellsOf 3=1∧Tryz.prog.cellsOf 39=1∧Tryz.prog.cellsOf 27=1:=⟨by kernel_rfl,by kernel_rfl,by kernel_rfl,by kernel_rfl⟩
theorem bQ {fs:Array Field} {ts:Array (TypeId × Nat)} (h:fs.map (fun f=>(f.type,f.offset))=ts) (i:Nat) (t:TypeId) (o:Nat) (hi:ts[i]?=some (t,o)):∃ f,fs[i]?=some f∧f.type=t∧f.offset=o:=by
 rw[← h,Array.getElem?_map]at hi
 obtain⟨f,hf,he⟩:=Option.map_eq_some_iff.1 hi
 cases he
 exact⟨f,hf,rfl,rfl⟩
section
variable {H:Type} {enc:TypeId × Value→H} {W:World} {base:Nat} {held:Bool}
theorem aA7 {fuel:Nat} {v:Value} {x:DataW H × List MemPlace} (h:DataW.trod enc Tryz.prog W base (fun _=>true) held fuel 39 [v]=some x):∃ A n c,v=.slice A n c:=by
 rcases open_ints Tryz.underlying39 Tryz.underlying5 cellsB h with ⟨h0,_⟩ | ⟨a,len,cap,zs,hcs,_⟩
 ·exact⟨_,_,_,by simpa using h0⟩
 ·exact⟨_,_,_,by simpa using hcs⟩
end
end Go.Proofs.YthjeglnkgdpijaaGreatDoor
