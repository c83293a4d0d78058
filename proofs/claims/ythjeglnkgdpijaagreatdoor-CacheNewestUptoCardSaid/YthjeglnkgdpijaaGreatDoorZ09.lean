/- The walk of the decoder's readTail. The walks of the decoder's step and of chunk.Decode. The one body that the laws of chunk decode first; what a body's reading answers is within bounds. The stand-in disk in memory: which blocks it has, what they hold, what a step may turn. No condition: plain lemmas. The walks of the disk's small functions: Down, Steps, good, slices.Contains at numbers, begin. Conditions: texts of at most 2^40 bytes, at most 2^40 steps that fail. The walk of the disk's begin: a step is counted, and its names are looked at (printed by gen/disk1.py). Conditions: names of at most 2^40 bytes, at most 2^40 steps. The walk of the disk's on (a step about a file that is there), over the look-up of a name. Conditions: names of at most 2^40 bytes, at most 2^40 steps. How a message's body ends, as plain functions on its fields. No program here. The walks of frame.length, frame.rule, frame.OfRequest, and of the document's number, rule and OfRequest. Conditions: fields of bulk at most 2^30. -/
import Derived.Test.YthjeglnkgdpijaaGreatDoorZ02
import Derived.IntWalk
import Derived.Maps.OwnOps
import Derived.Lib.ItoaLen
import Derived.Deep.DeepCutAuto
set_option maxHeartbeats 2000000
set_option maxRecDepth 100000
namespace Go.Proofs.YthjeglnkgdpijaaGreatDoor
open Go.RowKit
def TvRow (w u:World) (fs:List FD) (tv:Value):Prop:=∃ TA tc,tv=.slice TA fs.length tc∧Row u (w.heap.size+1) 60 2 TA fs.length tc (fcells fs)
theorem TvRow.nil (w u:World):TvRow w u [] (.slice none 0 0):=⟨none,0,rfl,Row.none_ _ _ _ _⟩
namespace C
def fin (data:List UInt8) (a:Nat) (l:List UInt8):CD:=if tailE l≠0∨tailN l=0 then .bad (tailE l) else ⟨data,tailF l,a+tailN l,0⟩
def dat (data:List UInt8) (z a:Nat) (l:List UInt8):CD:=if l.length < z+2 then .bad 0 else if P.crlf.isPrefixOf (l.drop z)=false then .bad 70 else dec (data++l.take z) (a+z+2) (l.drop (z+2))
end C
def RetCD (w:World) (r:C.CD) (e:Ending) (w':World):Prop :=
 ∃ A c TA tc,e=.returned (.tuple #[.slice A r.d.length c,.slice TA r.f.length tc,.int .i64 r.n,.int .i64 r.e])∧Row w' w.heap.size 5 1 A r.d.length c (bcells r.d)∧Row w' w.heap.size 60 2 TA r.f.length tc (fcells r.f)∧Below w.heap.size w w'
theorem RetCD.bad {w w':World} {r:C.CD} {code:Int} (hb:Below w.heap.size w w') (h:r=.bad code):RetCD w r (.returned (.tuple #[.slice none 0 0,.slice none 0 0,.int .i64 0,.int .i64 code])) w':=by
 subst h
 exact⟨none,0,none,0,rfl,Row.none_ _ _ _ _,Row.none_ _ _ _ _,hb⟩
open Go Go.Maps
def Tag (w:World) (k:Nat) (t:TypeId):Prop:=∃ cs l,w.heap[k]?=some (.cells cs t l)
def MapB (w:World) (k:Nat):Prop:=∃ es cl,w.heap[k]?=some (.map es cl)
section
variable {w w':World} {b k m:Nat} {cs:Array Value} {t t' e:TypeId} {r:Option Nat} {A:Option Addr} {base s n c:Nat} {xs:List Value}
theorem Tag.ne (h:Tag w k t) (h':Tag w m t') (hn:t≠t'):k≠m:=by
 rintro rfl
 obtain⟨c1,l1,e1⟩:=h
 obtain⟨c2,l2,e2⟩:=h'
 rw[e1]at e2
 injection e2 with e2
 injection e2 with _ e3
 exact hn e3
theorem Tag.map (h:Tag w k t) (h':MapB w m):k≠m:=by
 rintro rfl
 obtain⟨c1,l1,e1⟩:=h
 obtain⟨c2,l2,e2⟩:=h'
 rw[e1]at e2
 cases e2
theorem Blk.tag (h:Blk w b cs t):Tag w b t:=⟨_,_,h⟩
theorem ownsMap_tag {K:TypeId} {R:Value→Option (DataW Unit × List MemPlace)} {D:DataW Unit} (h:w.ownsMap Tryz.prog K R b n D):MapB w b:=by
 obtain⟨es,cl,hb,_⟩:=h
 exact⟨es,cl,hb⟩
theorem Row.tag (h:Row w base e s A n c xs) (hk:ownB A c=some k):Tag w k e:=by
 unfold ownB at hk
 split at hk
 ·cases hk
 ·rename_i hc
  rcases h with h | h
  ·rcases h.2 with ⟨hv,_⟩ | ⟨g,cap,cur,hv,_,hg,_⟩
   ·injection hv with hA
    rw[hA]at hk
    cases hk
   ·injection hv with hA
    rw[hA]at hk
    obtain rfl:g=k:=by simpa using hk
    exact⟨_,_,hg⟩
  ·exact absurd h.2.1 hc
theorem Blk.keptG (h:Blk w b cs t) (hg:w.grownBy w' r) (hne:r≠some b):Blk w' b cs t:=(hg.block b h.lt (fun e=>hne e.symm)).trans h
theorem Row.keptG (h:Row w base e s A n c xs) (hg:w.grownBy w' r) (hne:∀ k,ownB A c=some k→r≠some k):Row w' base e s A n c xs:=by
 by_cases hc:c=0
 ·have hn:=h.cap.1
  have hn0:n=0:=by omega
  subst hn0
  exact .inr ⟨rfl,hc,List.eq_nil_of_length_eq_zero (by have:=h.len;simpa using this)⟩
 ·rcases h with h | h
  ·refine .inl (h.kept (row:=r) hg ?_)
   cases A with
   | none=>exact .inl rfl
   | some a =>
    refine .inr fun e=>hne a.block (by unfold ownB;rw[if_neg hc];rfl) ?_
    rw[← e]
    rfl
  ·exact .inr h
end
def All2 {α β:Type} (R:α→β→Prop):List α→List β→Prop
 | [],[]=>True
 | a::l,b::m=>R a b∧All2 R l m
 | _,_=>False
theorem All2.imp {α β:Type} {R S:α→β→Prop}:∀ {l:List α} {m:List β},All2 R l m→(∀ a b,R a b→S a b)→All2 S l m
 | [],[],_,_=>trivial
 | _::_,_::_,h,hi=>⟨hi _ _ h.1,h.2.imp hi⟩
theorem All2.len {α β:Type} {R:α→β→Prop}:∀ {l:List α} {m:List β},All2 R l m→l.length=m.length
 | [],[],_=>rfl
 | _::_,_::_,h=>by rw[List.length_cons,List.length_cons,All2.len h.2]
theorem All2.snoc {α β:Type} {R:α→β→Prop}:∀ {l:List α} {m:List β} {a:α} {b:β},All2 R l m→R a b→All2 R (l++[a]) (m++[b])
 | [],[],_,_,_,h=>⟨h,trivial⟩
 | _::_,_::_,_,_,h,hr=>⟨h.1,h.2.snoc hr⟩
structure DM where
 d:Nat
 mN:Nat
 mS:Nat
 PA:Option Addr
 pc:Nat
 pv:List Value
 fa:Nat→Nat
 da:Nat→Option Addr
 dc:Nat→Nat
 FA:Option Addr
 fc:Nat
def ChgV (w:World) (B:Nat) (fa:Nat→Nat):D.Chg→Value→Prop
 | .put nm no,v=>∃ bf bn,v=.func (.func 134) #[] #[.pointer (some ⟨bf,0,none⟩),.pointer (some ⟨bn,0,none⟩)]∧B≤bf∧B≤bn ∧
   Blk w bf #[.pointer (some ⟨fa no,0,none⟩)] 98∧Blk w bn #[.string nm] 9
 | .del nm,v=>∃ bn,v=.func (.func 114) #[] #[.pointer (some ⟨bn,0,none⟩)]∧B≤bn∧Blk w bn #[.string nm] 9
 | .ren a b no,v=>∃ ba bf bb,v=.func (.func 141) #[] #[.pointer (some ⟨ba,0,none⟩),.pointer (some ⟨bf,0,none⟩),.pointer (some ⟨bb,0,none⟩)]∧B≤ba∧B≤bf∧B≤bb ∧
   Blk w ba #[.string a] 9∧Blk w bf #[.pointer (some ⟨fa no,0,none⟩)] 98∧Blk w bb #[.string b] 9
def icells (l:List Int):List Value:=l.map fun z=>.int .i64 z
structure FileAt (B:Nat) (M:DM) (s:D.Dsk) (no:Nat) (w:World):Prop where
 blk:Blk w (M.fa no) #[.int .i64 no,.slice (M.da no) (s.size no) (M.dc no),.int .i64 (s.firm.getD no 0:Nat)] 100
 row:Row w B 5 1 (M.da no) (s.size no) (M.dc no) (bcells (s.data.getD no []))
 ge:B≤M.fa no
structure DkAt (B:Nat) (M:DM) (s:D.Dsk) (w:World):Prop where
 blk:Blk w M.d #[.map (some M.mN),.map (some M.mS),.slice M.PA s.pend.length M.pc,.int .i64 s.data.length,.int .i64 s.room,.slice M.FA s.fails.length M.fc,.int .i64 s.power,.int .i64 s.n] 95
 now:w.ownsMap Tryz.prog 9 D.ptrR M.mN s.now.length (D.datum M.fa s.now)
 safe:w.ownsMap Tryz.prog 9 D.ptrR M.mS s.safe.length (D.datum M.fa s.safe)
 ne:M.mN≠M.mS
 pend:Row w B 200 1 M.PA s.pend.length M.pc M.pv
 chg:All2 (ChgV w B M.fa) s.pend M.pv
 fails:Row w B 3 1 M.FA s.fails.length M.fc (icells s.fails)
 files:∀ no,no < s.data.length→FileAt B M s no w
 apart:∀ i j,i < s.data.length→j < s.data.length→i≠j→M.fa i≠M.fa j∧∀ k,ownB (M.da i) (M.dc i)=some k→ownB (M.da j) (M.dc j)≠some k
 ge:B≤M.d∧B≤M.mN∧B≤M.mS
def DM.foot (M:DM) (s:D.Dsk) (k:Nat):Prop:=k=M.d∨k=M.mN∨k=M.mS∨ownB M.PA M.pc=some k∨∃ no,no < s.data.length∧(k=M.fa no∨ownB (M.da no) (M.dc no)=some k)
structure Stepped (M:DM) (s:D.Dsk) (w:World) (M':DM) (s':D.Dsk) (w':World):Prop where
 os:w'.os=w.os
 tape:w'.tape=w.tape
 output:w'.output=w.output
 size:w.heap.size≤w'.heap.size
 block:∀ k,k < w.heap.size→¬ M.foot s k→w'.heap[k]?=w.heap[k]?
 foot:∀ k,M'.foot s' k→M.foot s k∨w.heap.size≤k
 same:M'.d=M.d
theorem Stepped.refl (M:DM) (s:D.Dsk) (w:World):Stepped M s w M s w:=⟨rfl,rfl,rfl,Nat.le_refl _,fun _ _ _=>rfl,fun _ h=>.inl h,rfl⟩
theorem Stepped.trans {M1 M2 M3:DM} {s1 s2 s3:D.Dsk} {w1 w2 w3:World} (h:Stepped M1 s1 w1 M2 s2 w2) (k:Stepped M2 s2 w2 M3 s3 w3):Stepped M1 s1 w1 M3 s3 w3 :=
 ⟨k.os.trans h.os,k.tape.trans h.tape,k.output.trans h.output,Nat.le_trans h.size k.size,fun i hi hn=>(k.block i (Nat.lt_of_lt_of_le hi h.size) (fun hf=>by
  rcases h.foot i hf with h1 | h1
  ·exact hn h1
  ·omega)).trans (h.block i hi hn),fun i hf=>by
  rcases k.foot i hf with h1 | h1
  ·exact h.foot i h1
  ·exact .inr (Nat.le_trans h.size h1),k.same.trans h.same⟩
theorem Stepped.below {M:DM} {s:D.Dsk} {w w':World} (h:Below w.heap.size w w'):Stepped M s w M s w':=⟨h.os,h.tape,h.output,h.size,fun k hk _=>h.block k hk,fun _ h=>.inl h,rfl⟩
section
variable {B:Nat} {M:DM} {s:D.Dsk} {w w':World} {r:Option Nat}
theorem ChgV.kept {fa:Nat→Nat} {c:D.Chg} {v:Value} (h:ChgV w B fa c v) (hg:w.grownBy w' r) (hne:∀ k t,r=some k→Tag w k t→t≠98∧t≠9):ChgV w' B fa c v:=by
 have hb:∀ {b:Nat} {cs:Array Value} {t:TypeId},(t=98∨t=9)→Blk w b cs t→Blk w' b cs t:=fun ht hb=>hb.keptG hg (fun e=>by
  have:=hne _ _ e hb.tag
  rcases ht with rfl | rfl
  ·exact this.1 rfl
  ·exact this.2 rfl)
 cases c with
 | put nm no =>
  obtain⟨bf,bn,h1,h2,h3,h4,h5⟩:=h
  exact⟨bf,bn,h1,h2,h3,hb (.inl rfl) h4,hb (.inr rfl) h5⟩
 | del nm =>
  obtain⟨bn,h1,h2,h3⟩:=h
  exact⟨bn,h1,h2,hb (.inr rfl) h3⟩
 | ren a b no =>
  obtain⟨ba,bf,bb,h1,h2,h3,h4,h5,h6,h7⟩:=h
  exact⟨ba,bf,bb,h1,h2,h3,h4,hb (.inr rfl) h5,hb (.inl rfl) h6,hb (.inr rfl) h7⟩
theorem DkAt.below (h:DkAt B M s w) (hb:Below w.heap.size w w'):DkAt B M s w':=by
 have hg:w.grownBy w' none:=⟨hb.os,hb.tape,hb.output,hb.size,fun k hk _=>hb.block k hk⟩
 exact⟨h.blk.below hb,h.now.kept hg (by simp),h.safe.kept hg (by simp),h.ne,h.pend.below hb,h.chg.imp (fun c v hc=>hc.kept hg (fun k t e=>by cases e)),h.fails.below hb,
  fun no hn=>⟨(h.files no hn).blk.below hb,(h.files no hn).row.below hb,(h.files no hn).ge⟩,h.apart,h.ge⟩
theorem DkAt.cells (h:DkAt B M s w):w.cell? ⟨M.d,0,none⟩=some (.map (some M.mN))∧w.cell? ⟨M.d,1,none⟩=some (.map (some M.mS))∧w.cell? ⟨M.d,2,none⟩=some (.slice M.PA s.pend.length M.pc)∧w.cell? ⟨M.d,3,none⟩=some (.int .i64 s.data.length) ∧
  w.cell? ⟨M.d,4,none⟩=some (.int .i64 s.room)∧w.cell? ⟨M.d,5,none⟩=some (.slice M.FA s.fails.length M.fc)∧w.cell? ⟨M.d,6,none⟩=some (.int .i64 s.power)∧w.cell? ⟨M.d,7,none⟩=some (.int .i64 s.n) :=
 ⟨h.blk.cell 0 rfl,h.blk.cell 1 rfl,h.blk.cell 2 rfl,h.blk.cell 3 rfl,h.blk.cell 4 rfl,h.blk.cell 5 rfl,h.blk.cell 6 rfl,h.blk.cell 7 rfl⟩
theorem DkAt.count (h:DkAt B M s w) (n:Int):DkAt B M { s with n:=n } (w.setCell ⟨M.d,7,none⟩ (.int .i64 n)):=by
 have hg:=grown_set w M.d 7 (.int .i64 n)
 have hT:=h.blk.tag
 have hne:∀ k t,some M.d=some k→Tag w k t→t≠98∧t≠9:=fun k t e ht=>by
  cases e
  obtain⟨c1,l1,e1⟩:=hT
  obtain⟨c2,l2,e2⟩:=ht
  rw[e1]at e2
  injection e2 with e2
  injection e2 with _ e3
  subst e3
  decide
 refine⟨h.blk.set 7 _,h.now.kept hg (fun e=>hT.map (ownsMap_tag h.now) (by simpa using e.symm)),h.safe.kept hg (fun e=>hT.map (ownsMap_tag h.safe) (by simpa using e.symm)),h.ne,
  h.pend.keptG hg (fun k hk e=>(hT.ne (h.pend.tag hk) (by decide)) (by simpa using e)),h.chg.imp (fun c v hc=>hc.kept hg hne),h.fails.keptG hg (fun k hk e=>(hT.ne (h.fails.tag hk) (by decide)) (by simpa using e)),
  fun no hn=>⟨(h.files no hn).blk.keptG hg (fun e=>(hT.ne (h.files no hn).blk.tag (by decide)) (by simpa using e)),(h.files no hn).row.keptG hg (fun k hk e=>(hT.ne ((h.files no hn).row.tag hk) (by decide)) (by simpa using e)),(h.files no hn).ge⟩,
  h.apart,h.ge⟩
theorem Stepped.set {M:DM} {s s':D.Dsk} {w:World} {i:Nat} {x:Value} (hs:s'.data.length=s.data.length):Stepped M s w M s' (w.setCell ⟨M.d,i,none⟩ x) :=
 ⟨rfl,rfl,rfl,by rw[World.size_setCell];exact Nat.le_refl _,fun k _ hn=>by
  unfold World.setCell
  simp only[Array.getElem?_modify]
  rw[if_neg (fun e=>hn (.inl e.symm))],fun k hf=>.inl (by unfold DM.foot at *;rw[hs]at hf;exact hf),rfl⟩
end
namespace D
def okS:List UInt8:=[97,98,99,100,101,102,103,104,105,106,107,108,109,110,111,112,113,114,115,116,117,118,119,120,121,122,48,49,50,51,52,53,54,55,56,57,46,45,95,47]
theorem okB_in (c:UInt8):okB c=okS.contains c:=by
 have h:∀ n:Fin 256,okB (UInt8.ofNat n.1)=okS.contains (UInt8.ofNat n.1):=by decide +kernel
 have:=h ⟨c.toNat,c.toNat_lt⟩
 simpa using this
theorem trim_set (S l:List UInt8):Lib.trimS l S=[]↔l.all (fun c=>S.contains c)=true:=by
 unfold Lib.trimS Lib.trimLeftS Lib.trimRightS
 rw[List.all_eq_true]
 constructor
 ·intro h
  rw[drop_nil]at h
  have h2:l.reverse.dropWhile (fun c=>S.contains c)=[]:=by
   cases h3:l.reverse.dropWhile (fun c=>S.contains c) with
   | nil=>rfl
   | cons x r =>
    have h4:=List.head_dropWhile_not (fun c=>S.contains c) (l:=l.reverse) (by rw[h3];simp)
    simp only[h3,List.head_cons]at h4
    have h5:=h x (by rw[h3];simp)
    rw[h4]at h5
    cases h5
  rw[drop_nil]at h2
  exact fun x hx=>h2 x (by simpa using hx)
 ·intro h
  have h2:l.reverse.dropWhile (fun c=>S.contains c)=[]:=by
   rw[drop_nil]
   exact fun x hx=>h x (by simpa using hx)
  rw[h2]
  rfl
end D
theorem okTrim (s:ByteArray) (w:World) (hs:s.size≤1099511627776):Calls Tryz.prog 88 #[.string s,.string ⟨#[97,98,99,100,101,102,103,104,105,106,107,108,109,110,111,112,113,114,115,116,117,118,119,120,121,122,48,49,50,51,52,53,54,55,56,57,46,45,95,47]⟩] w (RetS w (B (Lib.trimS (L s) D.okS))):=by
 refine (Any.strings_Trim_laid Tryz.lays160 (by kernel_rfl) s ⟨#[97,98,99,100,101,102,103,104,105,106,107,108,109,110,111,112,113,114,115,116,117,118,119,120,121,122,48,49,50,51,52,53,54,55,56,57,46,45,95,47]⟩ w (by omega) (by decide) (ascii_of_all (by decide))).mono ?_
 rintro e w' ⟨rfl,hb⟩
 exact⟨rfl,hb⟩
theorem down_any (B:Nat) (M:DM) (s:D.Dsk) (w:World) (h:DkAt B M s w):Calls Tryz.prog 109 #[.pointer (some ⟨M.d,0,none⟩)] w (RetB w s.down):=by
 obtain⟨y0,y1,y2,y3,y4,y5,y6,y7⟩:=h.cells
 obtain⟨G,hG⟩:∃ G,s.down=G:=⟨_,rfl⟩
 have HG:Hid (G=(decide (0≤s.power)&&decide (s.n=s.power))):=Lib.hid hG.symm
 rw[hG]
 generalize s.power=pw at *
 generalize s.n=nn at *
 clear h hG y0 y1 y2 y3 y4 y5
 go_enter Tryz.func109,Tryz.ntmps109
 by_cases h0:0≤pw
 ·have h0i:pw≥0:=h0
  by_cases h1:nn=pw
  ·have h1b:(nn==pw)=true:=beq_iff_eq.2 h1
   go_upto_region 1 with fail
   go_region
   go_wp2
   go_ret
   exact⟨ret_bool (by rw[HG.out];simp [h0,h1]),(Below.refl _ _).drew⟩
  ·have h1b:(nn==pw)=false:=beq_eq_false_iff_ne.2 h1
   go_upto_region 1 with fail
   go_region
   go_wp2
   go_ret
   exact⟨ret_bool (by rw[HG.out];simp [h0,h1]),(Below.refl _ _).drew⟩
 ·have h0i:¬ pw≥0:=h0
  go_upto_region 1 with fail
  go_region
  go_wp2
  go_ret
  exact⟨ret_bool (by rw[HG.out,decide_eq_false (show ¬ 0≤pw by omega)];rfl),(Below.refl _ _).drew⟩
theorem goodName_any (s:ByteArray) (w:World) (hs:s.size≤1099511627776):Calls Tryz.prog 48 #[.string s] w (RetB w (D.good s)):=by
 have HT:=Lib.hid (okTrim s w hs)
 obtain⟨G,hG⟩:∃ G,D.good s=G:=⟨_,rfl⟩
 have HG:Hid (G=((L s).all D.okB&&decide (1≤s.size)&&decide (s.size≤64))):=Lib.hid hG.symm
 have HA:Hid (Lib.trimS (L s) D.okS=[]↔(L s).all D.okB=true):=Lib.hid (by rw[D.trim_set,show (fun c=>D.okS.contains c)=D.okB from funext fun c=>(D.okB_in c).symm])
 rw[hG]
 clear hG
 have hls:s.toList.length=s.size:=by rw[L_toList];exact L_size s
 by_cases h0:s.size=0
 ·have he:s.toList=[]:=List.eq_nil_of_length_eq_zero (by omega)
  have hs0:s=⟨#[]⟩:=toList_inj.1 (he.trans (by simp))
  subst hs0
  go_enter Tryz.func48,Tryz.ntmps48
  go_wp2
  go_ret
  exact⟨ret_bool (by rw[HG.out];rfl),Below.refl _ _⟩
 ·have hn:¬ s.toList=[]:=fun e=>h0 (by rw[← hls,e];rfl)
  have hnb:s.toList.isEmpty=false:=by cases h:s.toList<;>simp_all
  by_cases h64:s.size≤64
  ·have h64i:(s.size:Int)≤64:=by omega
   clear hls
   by_cases hall:(L s).all D.okB=true
   ·have HT2:Hid (Calls Tryz.prog 88 #[.string s,.string ⟨#[97,98,99,100,101,102,103,104,105,106,107,108,109,110,111,112,113,114,115,116,117,118,119,120,121,122,48,49,50,51,52,53,54,55,56,57,46,45,95,47]⟩] w (RetS w ⟨#[]⟩)):=by
     have:=HT.out
     rw[HA.out.2 hall]at this
     exact Lib.hid this
    clear HT HA
    go_enter Tryz.func48,Tryz.ntmps48
    go_wp2_with fail
    refine HT2.out.mono ?_
    rintro e w1 ⟨rfl,hb1⟩
    go_wp2
    go_ret
    exact⟨ret_bool (by rw[HG.out,hall,decide_eq_true (show 1≤s.size by omega),decide_eq_true h64];rfl),hb1⟩
   ·have hne:¬ Lib.trimS (L s) D.okS=[]:=fun e=>hall (HA.out.1 e)
    obtain⟨T,hT⟩:∃ T,B (Lib.trimS (L s) D.okS)=T:=⟨_,rfl⟩
    have hTn:¬ T.toList=[]:=fun e=>hne (by rw[← hT,L_toList,L_B]at e;exact e)
    have hTb:T.toList.isEmpty=false:=by cases h:T.toList<;>simp_all
    rw[hT]at HT
    clear hT hne HA
    go_enter Tryz.func48,Tryz.ntmps48
    go_wp2_with fail
    refine HT.out.mono ?_
    rintro e w1 ⟨rfl,hb1⟩
    go_wp2
    go_ret
    exact⟨ret_bool (by rw[HG.out,Bool.not_eq_true _ |>.mp hall];rfl),hb1⟩
  ·have h64i:¬ (s.size:Int)≤64:=by omega
   clear hls HT HA
   go_enter Tryz.func48,Tryz.ntmps48
   go_wp2
   go_ret
   exact⟨ret_bool (by rw[HG.out,decide_eq_false h64,Bool.and_false]),Below.refl _ _⟩
theorem indexI_any (A:Option Addr) (n c:Nat) (zs:List Int) (x:Int) (w:World) (hn:n≤1099511627776) (hl:zs.length=n) (hx:Rd w A n 1 (icells zs)) :
  Calls Tryz.prog 189 #[.slice A n c,.int .i64 x] w (fun e w'=>∃ z:Int,e=.returned (.int .i64 z)∧w'=w∧(0≤z↔x∈zs)):=by
 have HX:=Lib.hid hx
 have HL:=Lib.hid hl
 clear hx hl
 go_enter Tryz.func189,Tryz.ntmps189
 go_wp2
 go_loopw [8] (fun i wr=>∃ k:Nat,k≤n∧i=.int .i64 k∧wr=w∧x ∉ zs.take k) (fun i _=>n - (intOf i).toNat)
 case atStart=>exact⟨0,Nat.zero_le _,rfl,rfl,by simp⟩
 case round =>
  obtain⟨k,hk,rfl,rfl,hno⟩:=hrel
  have HNO:=Lib.hid hno
  clear hno
  by_cases hlt:k < n
  ·obtain⟨b,o,u,rfl,hb,hu,hc⟩:=HX.out.at1 hlt
   have hkl:k < zs.length:=by rw[HL.out];exact hlt
   have hu2:u=.int .i64 (zs[k]'hkl):=by
    unfold icells at hu
    rw[List.getElem?_map,List.getElem?_eq_getElem hkl]at hu
    exact (Option.some.inj hu).symm
   subst hu2
   have HTK:=Lib.hid (List.take_succ_eq_append_getElem hkl)
   have HMEM:=Lib.hid (List.getElem_mem hkl)
   generalize zs[k]'hkl=y at *
   clear hu hkl
   by_cases hxy:x=y
   ·have hxb:(x==y)=true:=beq_iff_eq.2 hxy
    go_wp2
    go_ret
    exact⟨k,rfl,rfl,fun _=>by rw[hxy];exact HMEM.out,fun _=>by omega⟩
   ·have hxb:(x==y)=false:=beq_eq_false_iff_ne.2 hxy
    go_wp2
    go_roundw
    case rel=>exact⟨k+1,by omega,by go_num,trivial,by rw[HTK.out,List.mem_append];rintro (h | h);exact HNO.out h;exact hxy (List.mem_singleton.1 h)⟩
    case measure=>simp [intOf];omega
  ·have hkn:k=n:=by omega
   have hall:x ∉ zs:=by
    have:=HNO.out
    rwa [List.take_of_length_le (by have:=HL.out;omega)]at this
   have HALL:=Lib.hid hall
   clear hkn hall HNO
   go_wp2
   go_ret
   exact⟨-1,rfl,rfl,fun h=>absurd h (by decide),fun h=>absurd h HALL.out⟩
theorem containsI_any (A:Option Addr) (n c:Nat) (zs:List Int) (x:Int) (w:World) (hn:n≤1099511627776) (hl:zs.length=n) (hx:Rd w A n 1 (icells zs)) :
  Calls Tryz.prog 165 #[.slice A n c,.int .i64 x] w (RetP w (.bool (decide (x∈zs)))):=by
 have HI:=Lib.hid (indexI_any A n c zs x w hn hl hx)
 clear hx hl
 go_enter Tryz.func165,Tryz.ntmps165
 go_wp2_with fail
 refine HI.out.mono ?_
 rintro e w1 ⟨z,rfl,rfl,hz⟩
 by_cases h0:0≤z
 ·have h0i:z≥0:=h0
  have hm:=hz.1 h0
  go_wp2
  go_ret
  exact⟨ret_bool (decide_eq_true hm).symm,rfl⟩
 ·have h0i:¬ z≥0:=h0
  have hm:x ∉ zs:=fun h=>h0 (hz.2 h)
  go_wp2
  go_ret
  exact⟨ret_bool (decide_eq_false hm).symm,rfl⟩
theorem Rd.farD {w:World} {A:Option Addr} {n size b:Nat} {xs:List Value} (h:Rd w A n size xs) (ha:0 < n→∀ a,A=some a→a.block≠b) (i:Nat) (x:Value):Rd (w.setCell ⟨b,i,none⟩ x) A n size xs :=
 ⟨h.1,fun hn=>by
  obtain⟨b',o,e,hlt,hc⟩:=h.2 hn
  have hne:b'≠b:=ha hn _ e
  exact⟨b',o,e,by simpa [World.setCell] using hlt,fun j u hu=>(World.cell?_setCell_far _ _ _ _ (fun e=>hne e.symm)).trans (hc j u hu)⟩⟩
def NSml (l:List ByteArray):Prop:=∀ s∈l,s.size≤1099511627776
theorem badName_any (s:ByteArray) (w:World) (hs:s.size≤1099511627776):Calls Tryz.prog 167 #[.string s] w (RetB w (!D.good s)):=by
 have HG:=Lib.hid (goodName_any s w hs)
 go_enter Tryz.func167,Tryz.ntmps167
 go_wp2_with fail
 refine HG.out.mono ?_
 rintro e w1 ⟨rfl,hb1⟩
 go_wp2
 go_ret
 exact⟨rfl,hb1⟩
theorem indexBad_any (A:Option Addr) (n c:Nat) (ns:List ByteArray) (w:World) (hn:n≤1099511627776) (hl:ns.length=n) (hs:NSml ns) (hx:Rd w A n 1 (scells ns)) :
  Calls Tryz.prog 87 #[.slice A n c,.func (.func 167) #[] #[]] w (fun e w'=>∃ z:Int,e=.returned (.int .i64 z)∧Below w.heap.size w w'∧(0≤z↔ns.all D.good=false)):=by
 have HX:=Lib.hid hx
 have HL:=Lib.hid hl
 have HS:=Lib.hid hs
 clear hx hl hs
 go_enter Tryz.func87,Tryz.ntmps87
 go_wp2
 go_loopw [8] (fun i wr=>∃ k:Nat,k≤n∧i=.int .i64 k∧Below w.heap.size w wr∧(ns.take k).all D.good=true) (fun i _=>n - (intOf i).toNat)
 case atStart=>exact⟨0,Nat.zero_le _,rfl,Below.refl _ _,by simp⟩
 case round =>
  obtain⟨k,hk,rfl,hbel,hno⟩:=hrel
  have HNO:=Lib.hid hno
  have HBE:=Lib.hid hbel
  clear hno hbel
  by_cases hlt:k < n
  ·have hkl:k < ns.length:=by rw[HL.out];exact hlt
   obtain⟨b,o,rfl,hb,hc⟩:=(HX.out.below HBE.out).str hlt HL.out
   have HTK:=Lib.hid (List.take_succ_eq_append_getElem hkl)
   have HMEM:=Lib.hid (List.getElem_mem hkl)
   have hsz:=HS.out _ (List.getElem_mem hkl)
   generalize ns[k]'hkl=y at *
   have HC:=Lib.hid (badName_any y wr hsz)
   clear hkl hsz
   cases hg:D.good y
   ·rw[hg]at HC
    have HG:=Lib.hid hg
    clear hg
    go_wp2_with fail
    refine HC.out.mono ?_
    rintro e w1 ⟨rfl,hb1⟩
    go_wp2
    go_ret
    refine⟨k,rfl,below_then HBE.out.size HBE.out hb1,fun _=>?_,fun _=>by omega⟩
    rw[Bool.eq_false_iff]
    intro h
    rw[List.all_eq_true.1 h y HMEM.out]at HG
    cases HG.out
   ·rw[hg]at HC
    have HG:=Lib.hid hg
    clear hg
    go_wp2_with fail
    refine HC.out.mono ?_
    rintro e w1 ⟨rfl,hb1⟩
    go_wp2
    go_roundw
    case rel=>exact⟨k+1,by omega,by go_num,below_then HBE.out.size HBE.out hb1,by rw[HTK.out,List.all_append,HNO.out];simp [HG.out]⟩
    case measure=>simp [intOf];omega
  ·have hall:ns.all D.good=true:=by
    have:=HNO.out
    rwa [List.take_of_length_le (by have:=HL.out;omega)]at this
   have HALL:=Lib.hid hall
   clear hall HNO
   go_wp2
   go_ret
   exact⟨-1,rfl,HBE.out,fun h=>absurd h (by decide),fun h=>by rw[HALL.out]at h;cases h⟩
theorem containsBad_any (A:Option Addr) (n c:Nat) (ns:List ByteArray) (w:World) (hn:n≤1099511627776) (hl:ns.length=n) (hs:NSml ns) (hx:Rd w A n 1 (scells ns)) :
  Calls Tryz.prog 166 #[.slice A n c,.func (.func 167) #[] #[]] w (RetB w (!ns.all D.good)):=by
 have HI:=Lib.hid (indexBad_any A n c ns w hn hl hs hx)
 clear hx hl hs
 go_enter Tryz.func166,Tryz.ntmps166
 go_wp2_with fail
 refine HI.out.mono ?_
 rintro e w1 ⟨z,rfl,hb,hz⟩
 by_cases h0:0≤z
 ·have h0i:z≥0:=h0
  have hm:=hz.1 h0
  go_wp2
  go_ret
  exact⟨ret_bool (by rw[hm];rfl),hb⟩
 ·have h0i:¬ z≥0:=h0
  have hm:ns.all D.good=true:=by
   cases h:ns.all D.good
   ·exact absurd (hz.2 h) h0
   ·rfl
  go_wp2
  go_ret
  exact⟨ret_bool (by rw[hm];rfl),hb⟩
def RetStep (B:Nat) (M:DM) (s:D.Dsk) (w:World) (x:D.Dsk × Int) (e:Ending) (w':World):Prop:=e=.returned (.int .i64 x.2)∧∃ M',DkAt B M' x.1 w'∧Stepped M s w M' x.1 w'
theorem begin_any (B:Nat) (M:DM) (s:D.Dsk) (A:Option Addr) (n c:Nat) (ns:List ByteArray) (w:World) (h:DkAt B M s w) (hsn:0≤s.n∧s.n≤1099511627776) (hfl:s.fails.length≤1099511627776) (hn:n≤1099511627776) (hl:ns.length=n) (hs:NSml ns) (hx:Rd w A n 1 (scells ns)) (hA:0 < n→∀ a,A=some a→a.block≠M.d) :
  Calls Tryz.prog 133 #[.pointer (some ⟨M.d,0,none⟩),.slice A n c] w (fun e w'=>e=.returned (.int .i64 (s.begin ns).2)∧DkAt B M (s.begin ns).1 w'∧Stepped M s w M (s.begin ns).1 w'):=by
 have HD:=Lib.hid h
 have HX:=Lib.hid hx
 have HDW:=Lib.hid (down_any B M s w h)
 have HCB:=Lib.hid (fun (u:World) (hr:Rd u A n 1 (scells ns))=>containsBad_any A n c ns u hn hl hs hr)
 clear h hx hl hs
 obtain⟨G,hG⟩:∃ G,s.begin ns=G:=⟨_,rfl⟩
 have HG:Hid (G=if s.down then (s,93) else ({ s with n:=s.n+1 },if decide (s.n+1∈s.fails) then 94 else if ns.all D.good then 0 else 95)):=Lib.hid (by rw[← hG];rfl)
 rw[hG]
 clear hG
 go_enter Tryz.func133,Tryz.ntmps133
 go_wp2_with fail
 refine HDW.out.mono ?_
 rintro e w1 ⟨rfl,hb1⟩
 have HD1:=Lib.hid (HD.out.below hb1)
 have HX1:=Lib.hid (HX.out.below hb1)
 have HS1:Hid (Stepped M s w M s w1):=Lib.hid (Stepped.below hb1)
 clear hb1 HD HX HDW
 cases hdn:s.down
 rotate_left
 ·rw[hdn,if_pos rfl]at HG
  go_wp2
  go_ret
  exact⟨by rw[HG.out];rfl,by rw[HG.out];exact HD1.out,by rw[HG.out];exact HS1.out⟩
 rw[hdn,if_neg (by decide)]at HG
 obtain⟨y0,y1,y2,y3,y4,y5,y6,y7⟩:=HD1.out.cells
 have f7:=HD1.out.blk.free 7
 have HD2:=Lib.hid (HD1.out.count (s.n+1))
 have HS2:Hid (Stepped M s w M { s with n:=s.n+1 } (w1.setCell ⟨M.d,7,none⟩ (.int .i64 (s.n+1)))):=Lib.hid (HS1.out.trans (Stepped.set rfl))
 have hX1a:=HX1.out
 have HX2:Hid (Rd (w1.setCell ⟨M.d,7,none⟩ (.int .i64 (s.n+1))) A n 1 (scells ns)):=Lib.hid (hX1a.farD hA 7 _)
 clear HD1 HS1 HX1 hX1a hA
 go_upto_region 4 with fail
 clear y0 y1 y2 y3 y4 y5 y6 y7 f7
 generalize w1.setCell ⟨M.d,7,none⟩ (.int .i64 (s.n+1))=w2 at *
 have hS0:DkAt B M { s with n:=s.n+1 } w2.drew:=HD2.out.below (Below.refl _ _).drew
 refine wp_region_noPanic ?_
 refine HT.begin (n:=8) (S:=(fun u=>DkAt B M { s with n:=s.n+1 } u)) (by kernel_rfl) hS0 ?_
 have HS3:=Lib.hid (HS2.out.trans (Stepped.below (Below.refl _ _).drew):Stepped M s w M { s with n:=s.n+1 } w2.drew)
 have HX3:=Lib.hid (HX2.out.drew)
 clear HS2 HX2 HD2
 generalize w2.drew=w3 at *
 refine HT.take 0 (.pointer (some ⟨M.d,0,none⟩)) rfl (by kernel_rfl) (fun _ _ _ h=>h) (Or.inl ⟨by rfl,?_⟩) (?_:HT _ _ _ _ _ _ _ ⟨#[_,_,_,_,_,_,_,_,_,_,_,_,_,_,.pointer (some ⟨M.d,0,none⟩),_,_,_,_,_,_,_,_,_,_],[]⟩ _)
 ·intro u hu
  go_simp
 refine HT.take 1 (.pointer (some ⟨M.d,0,none⟩)) rfl (by kernel_rfl) (fun _ _ _ h=>h) (Or.inl ⟨by rfl,?_⟩) (?_:HT _ _ _ _ _ _ _ ⟨#[_,_,_,_,_,_,_,_,_,_,_,_,_,_,.pointer (some ⟨M.d,0,none⟩),.pointer (some ⟨M.d,0,none⟩),_,_,_,_,_,_,_,_,_],[]⟩ _)
 ·intro u hu
  go_simp
 refine HT.take 2 (.pointer (some ⟨M.d,5,none⟩)) rfl (by kernel_rfl) (fun _ _ _ h=>h) (Or.inl ⟨by rfl,?_⟩) (?_:HT _ _ _ _ _ _ _ ⟨#[_,_,_,_,_,_,_,_,_,_,_,_,_,_,.pointer (some ⟨M.d,0,none⟩),.pointer (some ⟨M.d,0,none⟩),.pointer (some ⟨M.d,5,none⟩),_,_,_,_,_,_,_,_],[]⟩ _)
 ·intro u hu
  go_simp
 refine HT.take 3 (.slice M.FA s.fails.length M.fc) rfl (by kernel_rfl) (fun _ _ _ h=>h) (Or.inl ⟨by rfl,?_⟩) (?_:HT _ _ _ _ _ _ _ ⟨#[_,_,_,_,_,_,_,_,_,_,_,_,_,_,.pointer (some ⟨M.d,0,none⟩),.pointer (some ⟨M.d,0,none⟩),.pointer (some ⟨M.d,5,none⟩),.slice M.FA s.fails.length M.fc,_,_,_,_,_,_,_],[]⟩ _)
 ·intro u hu
  obtain⟨y0,y1,y2,y3,y4,y5,y6,y7⟩:=hu.cells
  go_simp
 refine HT.take 4 (.pointer (some ⟨M.d,0,none⟩)) rfl (by kernel_rfl) (fun _ _ _ h=>h) (Or.inl ⟨by rfl,?_⟩) (?_:HT _ _ _ _ _ _ _ ⟨#[_,_,_,_,_,_,_,_,_,_,_,_,_,_,.pointer (some ⟨M.d,0,none⟩),.pointer (some ⟨M.d,0,none⟩),.pointer (some ⟨M.d,5,none⟩),.slice M.FA s.fails.length M.fc,.pointer (some ⟨M.d,0,none⟩),_,_,_,_,_,_],[]⟩ _)
 ·intro u hu
  go_simp
 refine HT.take 5 (.pointer (some ⟨M.d,0,none⟩)) rfl (by kernel_rfl) (fun _ _ _ h=>h) (Or.inl ⟨by rfl,?_⟩) (?_:HT _ _ _ _ _ _ _ ⟨#[_,_,_,_,_,_,_,_,_,_,_,_,_,_,.pointer (some ⟨M.d,0,none⟩),.pointer (some ⟨M.d,0,none⟩),.pointer (some ⟨M.d,5,none⟩),.slice M.FA s.fails.length M.fc,.pointer (some ⟨M.d,0,none⟩),.pointer (some ⟨M.d,0,none⟩),_,_,_,_,_],[]⟩ _)
 ·intro u hu
  go_simp
 refine HT.take 6 (.pointer (some ⟨M.d,7,none⟩)) rfl (by kernel_rfl) (fun _ _ _ h=>h) (Or.inl ⟨by rfl,?_⟩) (?_:HT _ _ _ _ _ _ _ ⟨#[_,_,_,_,_,_,_,_,_,_,_,_,_,_,.pointer (some ⟨M.d,0,none⟩),.pointer (some ⟨M.d,0,none⟩),.pointer (some ⟨M.d,5,none⟩),.slice M.FA s.fails.length M.fc,.pointer (some ⟨M.d,0,none⟩),.pointer (some ⟨M.d,0,none⟩),.pointer (some ⟨M.d,7,none⟩),_,_,_,_],[]⟩ _)
 ·intro u hu
  go_simp
 refine HT.take 7 (.int .i64 (s.n+1)) rfl (by kernel_rfl) (fun _ _ _ h=>h) (Or.inl ⟨by rfl,?_⟩) (?_:HT _ _ _ _ _ _ _ ⟨#[_,_,_,_,_,_,_,_,_,_,_,_,_,_,.pointer (some ⟨M.d,0,none⟩),.pointer (some ⟨M.d,0,none⟩),.pointer (some ⟨M.d,5,none⟩),.slice M.FA s.fails.length M.fc,.pointer (some ⟨M.d,0,none⟩),.pointer (some ⟨M.d,0,none⟩),.pointer (some ⟨M.d,7,none⟩),.int .i64 (s.n+1),_,_,_],[]⟩ _)
 ·intro u hu
  obtain⟨y0,y1,y2,y3,y4,y5,y6,y7⟩:=hu.cells
  go_simp
 refine HT.tail _ rfl rfl (by kernel_rfl) (fun hS=>?_)
 have HS:=Lib.hid hS
 clear hS hS0
 go_wp2_with fail
 refine (containsI_any M.FA s.fails.length M.fc s.fails (s.n+1) w3 hfl rfl HS.out.fails.rd).mono ?_
 rintro e w4 ⟨rfl,rfl⟩
 cases hin:decide (s.n+1∈s.fails)
 rotate_left
 ·rw[hin,if_pos rfl]at HG
  go_wp2
  refine NoPanic.normal ?_
  go_wp2
  go_ret
  exact⟨by rw[HG.out];rfl,by rw[HG.out];exact HS.out,by rw[HG.out];exact HS3.out⟩
 rw[hin,if_neg (by decide)]at HG
 have HCC:=Lib.hid (HCB.out _ HX3.out)
 go_wp2
 refine NoPanic.normal ?_
 go_wp2_with fail
 refine HCC.out.mono ?_
 rintro e w5 ⟨rfl,hb5⟩
 cases hall:ns.all D.good
 ·rw[hall,if_neg (by decide)]at HG
  go_wp2
  go_ret
  exact⟨by rw[HG.out];rfl,by rw[HG.out];exact HS.out.below hb5,by rw[HG.out];exact HS3.out.trans (Stepped.below hb5)⟩
 ·rw[hall,if_pos rfl]at HG
  go_wp2
  go_ret
  exact⟨by rw[HG.out];rfl,by rw[HG.out];exact HS.out.below hb5,by rw[HG.out];exact HS3.out.trans (Stepped.below hb5)⟩
namespace D
def ptrOf (fa:Nat→Nat):Option Nat→Value
 | some no=>.pointer (some ⟨fa no,0,none⟩)
 | none=>.pointer none
end D
theorem strT_ul:Tryz.prog.underlying 9=some .string:=by kernel_rfl
theorem nmT_ul:Tryz.prog.underlying 91=some (.map 9 98):=by kernel_rfl
theorem zeroFile (w:World):(zeroValue 98).run Tryz.prog w=.ok (.pointer none) w:=by kernel_rfl
theorem nmKey (nm:ByteArray) (hs:nm.size≤maxLen):keyOf Tryz.prog 9 (.string nm)=some (D.key nm):=WideMaps.keyOf_string_mk strT_ul hs
section
variable {w:World} {b n:Nat} {fa:Nat→Nat} {l:D.NM}
theorem names_look (h:w.ownsMap Tryz.prog 9 D.ptrR b n (D.datum fa l)) (nm:ByteArray) (hs:nm.size≤maxLen) :
  (Instr.lookup 91 (.map (some b)) (.string nm) false).run Tryz.prog w=.ok (D.ptrOf fa (D.find l nm)) w:=by
 obtain⟨v,ps,hr,hv⟩:=h.lookup (string_keyed strT_ul) nmT_ul (zeroFile w) (zd:=.nil) (zp:=[]) rfl (nmKey nm hs)
 rw[hr]
 rw[D.datum_at]at hv
 cases hf:D.find l nm with
 | none=>rw[hf]at hv;rw[D.ptrR_nil hv];rfl
 | some no=>rw[hf]at hv;rw[D.ptrR_inv hv];rfl
theorem names_tight (h:w.ownsMap Tryz.prog 9 D.ptrR b n (D.datum fa l)):w.ownsMap Tryz.prog 9 D.ptrR b l.length (D.datum fa l):=by
 obtain⟨es,cl,hb,F,hs,hD⟩:=h
 refine⟨es,cl,hb,F,?_,hD⟩
 have h1:=congrArg Maps.size hD
 unfold D.datum at h1
 rw[Maps.size_eq,Maps.size_eq,length_sorted]at h1
 simp at h1
 omega
end
theorem on_any (B:Nat) (M:DM) (s:D.Dsk) (nm:ByteArray) (A:Option Addr) (n c B0:Nat) (more:List ByteArray) (w:World) (hD:∀ u,w.grownBy u (ownB A c)→DkAt B M s u) (hsn:0≤s.n∧s.n≤1099511627776) (hfl:s.fails.length≤1099511627776) (hn:n≤1000) (hl:more.length=n) (hs:NSml (more++[nm]))
  (hrow:Row w B0 9 1 A n c (scells more)) (hB0:B0≤w.heap.size) :
  Calls Tryz.prog 112 #[.pointer (some ⟨M.d,0,none⟩),.string nm,.slice A n c] w (fun e w'=>e=.returned (.tuple #[D.ptrOf M.fa (s.look nm more).2.2,.int .i64 (s.look nm more).2.1])∧∃ u,w.grownBy u (ownB A c)∧DkAt B M (s.look nm more).1 w'∧Stepped M s u M (s.look nm more).1 w'):=by
 have HD:=Lib.hid hD
 have HR:=Lib.hid hrow
 have hnm:nm.size≤1099511627776:=hs nm (by simp)
 have HLN:Hid ((more++[nm]).length=n+1):=Lib.hid (by simp [hl])
 have HBG:=Lib.hid (fun (A':Option Addr) (c':Nat) (u:World) (h:DkAt B M s u) (hx:Rd u A' (n+1) 1 (scells (more++[nm]))) (hA)=>begin_any B M s A' (n+1) c' (more++[nm]) u h hsn hfl (by omega) HLN.out hs hx hA)
 obtain⟨G,hG⟩:∃ G,s.look nm more=G:=⟨_,rfl⟩
 obtain⟨S1,hS1⟩:∃ S1,s.begin (more++[nm])=S1:=⟨_,rfl⟩
 have HG:Hid (G=if S1.2≠0 then (S1.1,S1.2,none) else match D.find S1.1.now nm with | none=>(S1.1,90,none) | some no=>(S1.1,0,some no)):=Lib.hid (by rw[← hG,← hS1];rfl)
 rw[hG]
 rw[hS1]at HBG
 clear hG hS1 hD hrow hl hs hsn hfl HLN
 go_enter Tryz.func112,Tryz.ntmps112
 go_wp2_with (at_builtin;refine appS _ rfl _ _ rfl B0 A n c more rfl (HR.out.alloc _) _ 1 1 [nm] rfl (newS w nm) (by omega) (by simp;omega) ?_;intro A1 c1 w2 hr2 ha2)
 have HD2:Hid (w.grownBy w2 (ownB A c)):=Lib.hid (by
  have h1:=World.grownBy_alloc w (.cells #[.string nm] 9) (ownB A c)
  exact h1.trans ha2.grown)
 have HDu:=Lib.hid (HD.out w2 HD2.out)
 have hA1:0 < n+1→∀ a,A1=some a→a.block≠M.d:=by
  intro _ a ha
  have hc:=hr2.cap.1
  have ht:=hr2.tag (k:=a.block) (by unfold ownB;rw[if_neg (by omega),ha];rfl)
  exact ht.ne HDu.out.blk.tag (by decide)
 have HC:=Lib.hid (HBG.out A1 c1 w2 HDu.out hr2.rd hA1)
 clear hA1 hr2 ha2 HR HBG HD
 go_wp2_with fail
 refine HC.out.mono ?_
 rintro e w3 ⟨rfl,hd3,hs3⟩
 have HD3:=Lib.hid hd3
 have HS3:=Lib.hid hs3
 clear hd3 hs3 HC HDu
 obtain⟨s1,z⟩:=S1
 dsimp only at *
 by_cases hz:z=0
 ·subst hz
  rw[if_neg (by simp)]at HG
  obtain⟨y0,y1,y2,y3,y4,y5,y6,y7⟩:=HD3.out.cells
  have hlk:=names_look HD3.out.now nm (by simp only[maxLen];omega)
  clear y1 y2 y3 y4 y5 y6 y7
  cases hf:D.find s1.now nm with
  | none =>
   rw[hf]at hlk HG
   dsimp only[D.ptrOf]at hlk HG
   go_wp2
   go_ret2
   exact⟨by rw[HG.out];rfl,w2,HD2.out,by rw[HG.out];exact HD3.out,by rw[HG.out];exact HS3.out⟩
  | some no =>
   rw[hf]at hlk HG
   dsimp only[D.ptrOf]at hlk HG
   go_wp2
   go_ret2
   exact⟨by rw[HG.out];rfl,w2,HD2.out,by rw[HG.out];exact HD3.out,by rw[HG.out];exact HS3.out⟩
 ·have hzb:(z==0)=false:=beq_eq_false_iff_ne.2 hz
  rw[if_pos hz]at HG
  go_wp2
  go_ret2
  exact⟨by rw[HG.out];rfl,w2,HD2.out,by rw[HG.out];exact HD3.out,by rw[HG.out];exact HS3.out⟩
end Go.Proofs.YthjeglnkgdpijaaGreatDoor
namespace Go.Proofs.YthjeglnkgdpijaaGreatDoor
namespace F
def teN:ByteArray:=⟨#[84,114,97,110,115,102,101,114,45,69,110,99,111,100,105,110,103]⟩
def clN:ByteArray:=⟨#[67,111,110,116,101,110,116,45,76,101,110,103,116,104]⟩
def chW:ByteArray:=⟨#[99,104,117,110,107,101,100]⟩
def num (s:ByteArray):Int:=if s.size≤18 then (match Lib.decNat (L s) with | some v=>(v:Int) | none=>-1) else -1
theorem dig_val (c:UInt8):P.dig c=true↔∃ d,Lib.digitVal c=some d:=by
 unfold P.dig Lib.digitVal
 rw[Bool.and_eq_true,decide_eq_true_eq,decide_eq_true_eq]
 constructor
 ·intro h;exact⟨_,if_pos h⟩
 ·rintro⟨d,h⟩
  split at h
  ·rename_i h1;exact h1
  ·cases h
def els (vs:List ByteArray):List ByteArray:=vs.flatMap list
def lensB (l:List ByteArray):Bool:=l.any fun y=>decide (num y < 0∨num y≠num (l.headD ⟨#[]⟩))
def lens (l:List ByteArray):Int × Int:=if l=[]∨lensB l=true then (0,60) else if 65536 < num (l.headD ⟨#[]⟩) then (0,71) else (num (l.headD ⟨#[]⟩),0)
def Seen (D:List ByteArray) (z:Int):Prop:=(D=[]∧z=-1)∨(D≠[]∧0≤z∧∀ x∈D,num x=z)
theorem Seen.head {D r:List ByteArray} {z:Int} (h:Seen D z) (h0:0≤z):num ((D++r).headD ⟨#[]⟩)=z:=by
 rcases h with ⟨rfl,h⟩ | ⟨h1,_,h2⟩
 ·omega
 ·cases D with
  | nil=>exact absurd rfl h1
  | cons x t=>exact h2 x (by simp)
theorem Seen.next {D:List ByteArray} {x:ByteArray} {z:Int} (hs:Seen D z) (h:0≤num x) (he:0≤z→z=num x):Seen (D++[x]) (num x):=by
 refine .inr ⟨by simp,h,fun y hy=>?_⟩
 rcases List.mem_append.1 hy with hy | hy
 ·rcases hs with ⟨rfl,_⟩ | ⟨_,h0,h2⟩
  ·cases hy
  ·rw[h2 y hy,he h0]
 ·simp only[List.mem_cons,List.mem_nil_iff,or_false]at hy
  rw[hy]
theorem Seen.le {D:List ByteArray} {z:Int} (h:Seen D z):-1≤z:=by
 rcases h with ⟨_,h⟩ | ⟨_,h,_⟩<;>omega
structure FR where
 k:Int
 n:Int
 e:Int
def frame (m:Int) (fs:List FD) (other:Int):FR :=
 if values fs teN≠[]∧values fs clN≠[] then ⟨0,0,61⟩
 else if values fs teN≠[] then (if m=0∨tokens fs teN≠[chW] then ⟨0,0,62⟩ else ⟨2,0,0⟩)
 else if values fs clN=[] then ⟨other,0,0⟩
 else if (lens (els (values fs clN))).2≠0 then ⟨0,0,(lens (els (values fs clN))).2⟩
 else ⟨1,(lens (els (values fs clN))).1,0⟩
end F
end Go.Proofs.YthjeglnkgdpijaaGreatDoor
