/- The walk of cache's Save (printed by gen/cachef.py). The walks of the library's IndexFunc and DeleteFunc over texts, at any function value that answers a predicate and makes new memory alone. -/
import Derived.Test.YthjeglnkgdpijaaGreatDoorCacheE
set_option maxHeartbeats 4000000
set_option maxRecDepth 100000
namespace Go.Proofs.YthjeglnkgdpijaaGreatDoor
open Go Go.RowKit Go.Maps
section
variable {B room k:Nat} {Z:CM} {a:CSt} {w w':World} {F F':Nat→Prop} {X:SM} {s:S.Sto} {T:TypeId}
theorem foot_under (h:StAt B X s w) (hf:X.foot s k):B≤k:=by
 rcases hf with hf | rfl | rfl | rfl | hf
 ·have hd:=h.log.disk
  rcases hf with rfl | rfl | rfl | hf | ⟨no,hn,rfl | hf⟩
  ·exact hd.ge.1
  ·exact hd.ge.2.1
  ·exact hd.ge.2.2
  ·exact (hd.pend.lt k hf).1
  ·exact (hd.files no hn).ge
  ·exact ((hd.files no hn).row.lt k hf).1
 ·exact h.log.ge
 ·exact h.ge.1
 ·exact h.ge.2
 ·exact (h.used.lt k hf).1
theorem CAt.under (h:CAt B room Z a w) (hk:Z.foot a k):B≤k:=by
 rcases hk with hk | rfl | ⟨s,hs,hk⟩
 ·exact h.mem.under hk
 ·exact h.ge.2
 ·exact foot_under (h.sto s hs) hk
theorem went_base (h:Went F w F' w') (hF:∀ k,F k→B≤k) (hB:B≤w.heap.size):Below B w w' :=
 ⟨h.os,h.tape,h.output,h.size,fun k hk=>h.block k (by omega) (fun hf=>by have:=hF k hf;omega)⟩
theorem CAt.off (h:CAt B room Z a w) (ht:Tag w k T) (h1:T≠95∧T≠200∧T≠100∧T≠5) (h2:T≠154∧T≠109∧T≠4) (h3:T≠Lr.tT∧T≠Lr.nT):¬ Z.foot a k:=by
 rintro (hk | rfl | ⟨s,hs,hk⟩)
 ·exact h.mem.off ht h3.1 h3.2 hk
 ·exact ht.map (ownsMap_tag h.hid) rfl
 ·exact (h.sto s hs).off ht h1 h2 hk
end
def RetSave (B room:Nat) (Z:CM) (a:CSt) (E:O.Ent) (w:World) (e:Ending) (w':World):Prop :=
 (S.encE E≠0∧e=.returned (.int .i64 (S.encE E))∧Below w.heap.size w w') ∨
 (S.encE E=0∧∃ l',LayTo w a.l l' (S.idOf E) E∧match a.s with
  | none=>e=.returned (.int .i64 0)∧CAt B room Z { a with l:=l' } w'∧Went (Z.foot a) w (Z.foot { a with l:=l' }) w'
  | some s=>e=.returned (.int .i64 (s.put E).2)∧∃ X',CAt B room { Z with X:=X' } (C.hide ⟨some (s.put E).1,l',a.hd⟩ (S.idOf E) (decide ((s.put E).2≠0))) w'∧Went (Z.foot a) w (CM.foot { Z with X:=X' } (C.hide ⟨some (s.put E).1,l',a.hd⟩ (S.idOf E) (decide ((s.put E).2≠0)))) w')
theorem save_any (B room b m m':Nat) (Z:CM) (a:CSt) (p:EP) (w:World) (h:CAt B room Z a w) (hp:EOwn w b p) (hk:p.E.k.size≤268435456) (hv:p.E.v.size≤268435456) (hr:p.E.r.size≤1073741824) (hb:F.bulk p.E.fs≤1073741824) (hl:p.E.fs.length≤1099511627776∧p.E.body.length≤1099511627776)
  (hf:∀ s,a.s=some s→C.Fine m s∧C.Fine m' (s.put p.E).1) (hm:m≤134000000) (hd:a.hd.length≤1073741824) (hT:∀ u,Below B w u→TabOk u) (hB:B≤w.heap.size) (hsep:∀ k,ownB p.A p.c=some k∨ownB p.X p.d=some k→¬ Z.foot a k) :
  Calls Tryz.prog 11 #[.pointer (some ⟨Z.c,0,none⟩),p.v] w (RetSave B room Z a p.E w):=by
 obtain⟨w0,hw0⟩:∃ w0,w.alloc (.cells #[.string p.E.k,.string p.E.v,.int .i64 p.E.s,.string p.E.r,.int .i64 p.E.m,.slice p.A p.E.fs.length p.c,.slice p.X p.E.body.length p.d,.int .i64 p.E.asked,.int .i64 p.E.got] 41)=w0:=⟨_,rfl⟩
 have hb0:Below w.heap.size w w0:=by rw[← hw0];exact (Below.refl _ _).alloc (Nat.le_refl _) _
 have hk0:Blk w0 w.heap.size #[.string p.E.k,.string p.E.v,.int .i64 p.E.s,.string p.E.r,.int .i64 p.E.m,.slice p.A p.E.fs.length p.c,.slice p.X p.E.body.length p.d,.int .i64 p.E.asked,.int .i64 p.E.got] 41:=by rw[← hw0];exact Blk.new w _ _
 have HID:=Lib.hid (id_any p.E.k p.E.v w0 (by omega) (by omega))
 rw[show p.E.k++⟨#[10]⟩++p.E.v=S.idOf p.E from rfl]at HID
 have his:(S.idOf p.E).size≤1073741824:=by
  have:(S.idOf p.E).size=p.E.k.size+1+p.E.v.size:=by unfold S.idOf;rw[L_size,L_append,L_append,List.length_append,List.length_append,← L_size,← L_size];rfl
  omega
 obtain⟨x0,x1,x2,x3,x4,x5,x6,x7,x8⟩:=hk0.cells9
 have HB0:=Lib.hid hb0
 have HK0:=Lib.hid hk0
 have H0:=Lib.hid (h.below hb0)
 have HP0:=Lib.hid (hp.below hb0)
 have HF:=Lib.hid hf
 have HTA:=Lib.hid hT
 obtain⟨id,hid⟩:∃ id,S.idOf p.E=id:=⟨_,rfl⟩
 rw[hid]at HID his
 have HIE:=Lib.hid hid
 clear hb0 hk0 h hp hf hT hid
 unfold EP.v entV
 go_enter Tryz.func11,Tryz.ntmps11
 go_wp2_with fail
 clear x0 x1 x2 x3 x4 x5 x6 x7 x8 hw0
 refine HID.out.mono ?_
 rintro e w1 ⟨rfl,hb1⟩
 have HB1:=Lib.hid (below_then HB0.out.size HB0.out hb1)
 have HZ1:=Lib.hid (Nat.le_trans HB0.out.size hb1.size)
 have H1:=Lib.hid (H0.out.below hb1)
 have HK1:=Lib.hid (HK0.out.below hb1)
 have HP1:=Lib.hid (HP0.out.below hb1)
 have HLY:=Lib.hid (lay_any B room b Z a id p w1 H1.out HP1.out his hr hb hl (HTA.out w1 (HB1.out.mono hB)) (Nat.le_trans hB HZ1.out))
 obtain⟨x0,x1,x2,x3,x4,x5,x6,x7,x8⟩:=HK1.out.cells9
 clear hb1 H0 HK0 HP0 HB0 HID
 unfold EP.v entV at HLY
 go_wp2_with fail
 clear x0 x1 x2 x3 x4 x5 x6 x7 x8
 refine HLY.out.mono ?_
 rintro e w2 (⟨hc,rfl,hb2⟩ | ⟨hc,rfl,l',hca,hwa,hla⟩)
 ·have HB2:=Lib.hid (below_then HZ1.out HB1.out hb2)
  have HC:=Lib.hid hc
  have hci:¬ ((S.encE p.E:Int)=0):=hc
  clear hc hb2 HLY
  go_wp2
  go_ret
  exact .inl ⟨HC.out,rfl,HB2.out⟩
 ·have HCA:=Lib.hid hca
  have HWA:=Lib.hid ((Went.below HB1.out (Z.foot a)).trans hwa)
  have HLA:Hid (LayTo w a.l l' id p.E):=Lib.hid ⟨hla.1,fun x hx=>(hla.2 x hx).imp (fun h=>h) (fun h k hk=>Nat.le_trans HZ1.out (h k hk))⟩
  have HC:=Lib.hid hc
  have HK2:=Lib.hid (hwa.blk HK1.out (H1.out.off HK1.out.tag (by decide) (by decide) (by decide)))
  have HP2:Hid (EOwn w2 b p):=Lib.hid ⟨hwa.row HP1.out.1 (fun k hk=>hsep k (.inl hk)),hwa.row HP1.out.2 (fun k hk=>hsep k (.inr hk))⟩
  have HT2:Hid (TabOk w2):=Lib.hid (HTA.out w2 ((HB1.out.mono hB).trans (went_base hwa (fun k hk=>H1.out.under hk) (Nat.le_trans hB HZ1.out))))
  obtain⟨y0,y1,y2⟩:=hca.cells
  clear hc hca hwa hla HLY
  cases hs:a.s with
  | none =>
   rw[hs]at y0
   dsimp only[Option.map]at y0
   have HS:=Lib.hid hs
   clear hs
   go_wp2
   go_ret
   refine .inr ⟨HC.out,l',by rw[HIE.out];exact HLA.out,?_⟩
   rw[HS.out]
   have h1:=HCA.out
   have h2:=HWA.out
   rw[HS.out]at h1 h2
   exact⟨rfl,h1,h2⟩
  | some s =>
   rw[hs]at y0
   dsimp only[Option.map]at y0
   have HS:=Lib.hid hs
   obtain⟨hf1,hf2⟩:=HF.out s hs
   obtain⟨s2,code,hsp⟩:∃ s2 code,s.put p.E=(s2,code):=⟨_,_,rfl⟩
   rw[hsp]at hf2
   have HF2:=Lib.hid hf2
   have HSP:=Lib.hid hsp
   have HPU:=Lib.hid (fun u (hu:Below w2.heap.size w2 u)=>(by
    have hq:=sput_any B Z.X s p.E m p.A p.c p.X p.d u ((HCA.out.below hu).sto s hs) hf1.fit hm hf1.up hf1.len hf1.sz hf1.cnt hf1.used hf1.no hr hb (by omega) (by omega) (HP2.out.1.rd.below hu) (HP2.out.2.rd.below hu) (HT2.out.below hu)
    rw[hsp]at hq
    exact hq:Calls Tryz.prog 35 #[.pointer (some ⟨Z.X.st,0,none⟩),entV p.E p.A p.c p.X p.d] u (RetSto B Z.X s u s2 (.int .i64 code))))
   clear hs hf1 hf2 hsp
   go_upto_region 7 with fail
   have hS0:Below w2.heap.size w2 w2.drew:=(Below.refl _ _).drew
   refine wp_region_noPanic ?_
   refine HT.begin (n:=5) (S:=(fun u=>Below w2.heap.size w2 u)) (by kernel_rfl) hS0 ?_
   generalize w2.drew=w3 at *
   refine HT.take 0 (.pointer (some ⟨Z.c,0,none⟩)) rfl (by kernel_rfl) (fun _ _ _ h=>h) (Or.inl ⟨by rfl,?_⟩) (?_:HT _ _ _ _ _ _ _ ⟨#[_,_,_,_,_,_,_,_,_,_,_,_,_,_,_,_,_,_,_,_,_,_,_,_,_,.pointer (some ⟨Z.c,0,none⟩),_,_,_,_,_,_,_,_,_,_,_],[]⟩ _)
   ·intro u hu
    go_simp
   refine HT.take 1 (.pointer (some ⟨Z.c,0,none⟩)) rfl (by kernel_rfl) (fun _ _ _ h=>h) (Or.inl ⟨by rfl,?_⟩) (?_:HT _ _ _ _ _ _ _ ⟨#[_,_,_,_,_,_,_,_,_,_,_,_,_,_,_,_,_,_,_,_,_,_,_,_,_,.pointer (some ⟨Z.c,0,none⟩),.pointer (some ⟨Z.c,0,none⟩),_,_,_,_,_,_,_,_,_,_],[]⟩ _)
   ·intro u hu
    go_simp
   refine HT.take 2 (.pointer (some ⟨Z.c,0,none⟩)) rfl (by kernel_rfl) (fun _ _ _ h=>h) (Or.inl ⟨by rfl,?_⟩) (?_:HT _ _ _ _ _ _ _ ⟨#[_,_,_,_,_,_,_,_,_,_,_,_,_,_,_,_,_,_,_,_,_,_,_,_,_,.pointer (some ⟨Z.c,0,none⟩),.pointer (some ⟨Z.c,0,none⟩),.pointer (some ⟨Z.c,0,none⟩),_,_,_,_,_,_,_,_,_],[]⟩ _)
   ·intro u hu
    go_simp
   refine HT.take 3 (.pointer (some ⟨Z.X.st,0,none⟩)) rfl (by kernel_rfl) (fun _ _ _ h=>h) (Or.inl ⟨by rfl,?_⟩) (?_:HT _ _ _ _ _ _ _ ⟨#[_,_,_,_,_,_,_,_,_,_,_,_,_,_,_,_,_,_,_,_,_,_,_,_,_,.pointer (some ⟨Z.c,0,none⟩),.pointer (some ⟨Z.c,0,none⟩),.pointer (some ⟨Z.c,0,none⟩),.pointer (some ⟨Z.X.st,0,none⟩),_,_,_,_,_,_,_,_],[]⟩ _)
   ·intro u hu
    have y0:=(HCA.out.below hu).cells.1
    rw[HS.out]at y0
    dsimp only[Option.map]at y0
    go_simp
   refine HT.take 4 (.agg #[.string p.E.k,.string p.E.v,.int .i64 p.E.s,.string p.E.r,.int .i64 p.E.m,.slice p.A p.E.fs.length p.c,.slice p.X p.E.body.length p.d,.int .i64 p.E.asked,.int .i64 p.E.got]) rfl (by kernel_rfl) (fun _ _ _ h=>h) (Or.inl ⟨by rfl,?_⟩) (?_:HT _ _ _ _ _ _ _ ⟨#[_,_,_,_,_,_,_,_,_,_,_,_,_,_,_,_,_,_,_,_,_,_,_,_,_,.pointer (some ⟨Z.c,0,none⟩),.pointer (some ⟨Z.c,0,none⟩),.pointer (some ⟨Z.c,0,none⟩),.pointer (some ⟨Z.X.st,0,none⟩),.agg #[.string p.E.k,.string p.E.v,.int .i64 p.E.s,.string p.E.r,.int .i64 p.E.m,.slice p.A p.E.fs.length p.c,.slice p.X p.E.body.length p.d,.int .i64 p.E.asked,.int .i64 p.E.got],_,_,_,_,_,_,_],[]⟩ _)
   ·intro u hu
    obtain⟨x0,x1,x2,x3,x4,x5,x6,x7,x8⟩:=(HK2.out.below hu).cells9
    go_simp
   refine HT.tail _ rfl rfl (by kernel_rfl) (fun hS=>?_)
   have HP3:=Lib.hid (HPU.out _ hS)
   have HC3:=Lib.hid (HCA.out.below hS)
   have HW3:=Lib.hid (HWA.out.trans (Went.below hS _))
   clear hS hS0 HPU HCA HWA y0 y1 y2
   unfold entV at HP3
   go_wp2_with fail
   refine HP3.out.mono ?_
   rintro e w4 ⟨rfl,X',hst,hwt,hxs,_,_⟩
   obtain⟨q1,q2⟩:=HC3.out.stored HS.out hst hwt hxs
   have HQ1:=Lib.hid q1
   have HQ2:=Lib.hid (HW3.out.trans q2)
   have HH:=Lib.hid (fun yes=>hide_any B room { Z with X:=X' } ⟨some s2,l',a.hd⟩ id yes m' w4 q1 (fun x hx=>by cases hx;exact HF2.out) his hd)
   clear q1 q2 hst hwt hxs HP3
   by_cases h0:code=0
   ·have h0i:(code:Int)=0:=h0
    have H00:=Lib.hid h0
    clear h0
    go_wp2
    refine NoPanic.normal ?_
    go_wp2_with fail
    refine (HH.out false).mono ?_
    rintro e w5 ⟨rfl,r1,r2⟩
    have R1:=Lib.hid r1
    have R2:=Lib.hid (HQ2.out.trans r2)
    clear r1 r2 HH
    go_wp2
    go_ret
    refine .inr ⟨HC.out,l',by rw[HIE.out];exact HLA.out,?_⟩
    rw[HS.out,HIE.out]
    dsimp only
    rw[HSP.out]
    refine⟨by rw[H00.out];rfl,X',?_⟩
    rw[show decide (code≠0)=false from decide_eq_false (fun h=>h H00.out)]
    exact⟨R1.out,R2.out⟩
   ·have h0i:¬ (code:Int)=0:=h0
    have H00:=Lib.hid h0
    clear h0
    go_wp2
    refine NoPanic.normal ?_
    go_wp2_with fail
    rw[bne_iff_ne.2 H00.out]
    refine (HH.out true).mono ?_
    rintro e w5 ⟨rfl,r1,r2⟩
    have R1:=Lib.hid r1
    have R2:=Lib.hid (HQ2.out.trans r2)
    clear r1 r2 HH
    go_wp2
    go_ret
    refine .inr ⟨HC.out,l',by rw[HIE.out];exact HLA.out,?_⟩
    rw[HS.out,HIE.out]
    dsimp only
    rw[HSP.out]
    refine⟨rfl,X',?_⟩
    rw[show decide (code≠0)=true from decide_eq_true H00.out]
    exact⟨R1.out,R2.out⟩
end Go.Proofs.YthjeglnkgdpijaaGreatDoor
namespace Go.Proofs.YthjeglnkgdpijaaGreatDoor
open Go Go.RowKit
structure Tells (g:Nat) (lb:Array Value) (p:ByteArray→Bool) (ok:ByteArray→Prop) (I:World→Prop) (gb:Option Nat):Prop where
 enter:∀ args w,(callFunc g args).run Tryz.prog w=.ok (.enter g args) w
 call:∀ x w,ok x→I w→Calls Tryz.prog g (#[.string x]++lb) w (RetB w (p x))
 new:∀ w w',I w→Below w.heap.size w w'→I w'
 set:∀ w b i v,gb=some b→I w→I (w.setCell ⟨b,i,none⟩ v)
section
variable {g:Nat} {lb:Array Value} {p:ByteArray→Bool} {ok:ByteArray→Prop} {I:World→Prop} {gb:Option Nat} {α:Type}
def FirstP (p:α→Bool) (l:List α) (r:Int):Prop:=(r=-1∧∀ x∈l,p x=false)∨∃ (k:Nat) (h:k < l.length),r=k∧p l[k]=true∧∀ x∈l.take k,p x=false
theorem indexT_any (A:Option Addr) (n c:Nat) (xs:List ByteArray) (w:World) (hn:n≤1099511627776) (hl:xs.length=n) (hok:∀ x∈xs,ok x) (H:Tells g lb p ok I gb) (hI:I w) (hx:Rd w A n 1 (scells xs)) :
  Calls Tryz.prog 87 #[.slice A n c,.func (.func g) #[] lb] w (fun e w'=>∃ r:Int,e=.returned (.int .i64 r)∧FirstP p xs r∧Below w.heap.size w w'):=by
 have HL:=Lib.hid hl
 have HOK:=Lib.hid hok
 have HC:=Lib.hid H.call
 have HNW:=Lib.hid H.new
 have HI:=Lib.hid hI
 have eg:=H.enter
 clear hl hok H hI
 go_enter Tryz.func87,Tryz.ntmps87
 go_wp2
 go_loopw [5,8] (fun _ i wr=>∃ k:Nat,k≤n∧i=.int .i64 k∧(∀ x∈xs.take k,p x=false)∧Below w.heap.size w wr) (fun _ i _=>n - (intOf i).toNat)
 case atStart=>exact⟨0,Nat.zero_le _,rfl,by simp,Below.refl _ _⟩
 case round =>
  obtain⟨k,hk,rfl,ha,hbel⟩:=hrel
  have HA:=Lib.hid ha
  have HB:=Lib.hid hbel
  clear ha
  by_cases hlt:k < n
  ·have hkl:k < xs.length:=by rw[HL.out];exact hlt
   obtain⟨b,o,rfl,hb,cx⟩:=(hx.below hbel).str hlt HL.out
   have hcc:=HC.out (xs[k]'hkl) wr (HOK.out _ (List.getElem_mem hkl)) (HNW.out _ _ HI.out hbel)
   obtain⟨x,hxk⟩:∃ x,x=xs[k]'hkl:=⟨_,rfl⟩
   rw[← hxk]at cx hcc
   have HK:=Lib.hid hxk
   clear hxk hbel
   obtain⟨t,ht⟩:∃ t,p x=t:=⟨_,rfl⟩
   rw[ht]at hcc
   have HT:=Lib.hid ht
   clear ht
   cases t with
   | true =>
    go_wp2_with (go_at_fn g;refine hcc.mono ?_;rintro e w1 ⟨rfl,hb1⟩)
    go_ret
    exact⟨k,rfl,.inr ⟨k,hkl,rfl,by rw[← HK.out];exact HT.out,HA.out⟩,below_next HB.out hb1⟩
   | false =>
    go_wp2_with (go_at_fn g;refine hcc.mono ?_;rintro e w1 ⟨rfl,hb1⟩;have HB1:=Lib.hid (below_next HB.out hb1))
    go_roundw
    case rel =>
     refine⟨k+1,by omega,by go_num,?_,HB1.out⟩
     intro y hy
     rw[List.take_succ_eq_append_getElem hkl]at hy
     rcases List.mem_append.1 hy with hy | hy
     ·exact HA.out y hy
     ·rw[List.mem_singleton.1 hy,← HK.out];exact HT.out
    case measure=>simp [intOf];omega
  ·have hall:∀ x∈xs,p x=false:=by
    have:=HA.out
    rw[List.take_of_length_le (by rw[HL.out];omega)]at this
    exact this
   have HALL:=Lib.hid hall
   clear hall
   go_wp2
   go_ret
   exact⟨-1,rfl,.inl ⟨rfl,HALL.out⟩,hbel⟩
theorem scells_take (l:List ByteArray) (i:Nat):(scells l).take i=scells (l.take i):=by
 unfold scells
 rw[List.map_take]
theorem scells_set (l:List ByteArray) (i:Nat) (x:ByteArray):(scells l).set i (.string x)=scells (l.set i x):=by
 unfold scells
 rw[List.map_set]
theorem clearS {w:World} {base g n c i:Nat} {xs:List ByteArray} (h:w.ownsRow base 9 1 (.slice (some ⟨g,0,none⟩) n c) n (scells xs)) (hi:i < n) :
  ∃ W,(∀ ty,(Builtin.clear_ #[55] ty #[.slice (some ⟨g,i,none⟩) (n - i) (c - i)]).run Tryz.prog w=.ok (.tuple #[]) W)∧Row W base 9 1 (some ⟨g,0,none⟩) i c (scells (xs.take i))∧w.grownBy W (some g):=by
 rcases h.2 with ⟨h',_⟩ | ⟨g',cap,cur,hv,hb,hg,hnc,hcm,hcs,ht⟩
 ·cases h'
 ·cases hv
  have hz:∀ w:World,(zeroValue 9).run Tryz.prog w=.ok (.string ⟨#[]⟩) w:=Tryz.zeroValue9
  have hzs:(Builtin.zeroCells #[.string ⟨#[]⟩] (n - i)).size=n - i:=by simp [Builtin.zeroCells]
  have hz1:∀ v∈(Builtin.zeroCells #[.string ⟨#[]⟩] (n - i)).toList,v.oneCell'=true:=by
   intro v hv
   simp only[Builtin.zeroCells,Array.toList_map,List.mem_map]at hv
   obtain⟨j,_,rfl⟩:=hv
   show Value.oneCell' (#[Value.string ⟨#[]⟩][j % 1]!)=true
   rw[Nat.mod_one]
   rfl
  have hst:=run_storeCells_at Tryz.prog g i 9 (Builtin.zeroCells #[.string ⟨#[]⟩] (n - i)).toList 0 cur w hg (by rw[Array.length_toList,hzs];omega) hz1
  generalize hnew:(List.take (i+0) cur.toList++(Builtin.zeroCells #[.string ⟨#[]⟩] (n - i)).toList++List.drop (i+0+(Builtin.zeroCells #[.string ⟨#[]⟩] (n - i)).toList.length) cur.toList).toArray=new at hst
  have hs1:new.size=c * 1:=by
   rw[← hnew]
   simp only[List.size_toArray,List.length_append,List.length_take,List.length_drop,Array.length_toList,hzs]
   omega
  have hs2:new.toList.take (i * 1)=scells (xs.take i):=by
   rw[Nat.mul_one]at ht ⊢
   rw[← hnew,Nat.add_zero,List.toList_toArray,List.append_assoc,List.take_append_of_le_length (by simp;omega),List.take_take,Nat.min_self,← scells_take,← ht,List.take_take,Nat.min_eq_left (by omega)]
  have hs3:(scells (xs.take i)).length=i * 1:=by
   have:=h.1
   unfold scells at this ⊢
   rw[List.length_map]at this ⊢
   rw[List.length_take]
   omega
  refine⟨w.setRow g new,fun ty=>?_,.inl ⟨hs3,.inr ⟨g,c,new,rfl,hb,setRow_heap w g cur _ _ _ hg,by omega,hcm,hs1,hs2⟩⟩,⟨rfl,rfl,rfl,by simp,fun k hk hne=>setRow_other w g k _ (fun e=>hne (by rw[e]))⟩⟩
  have hni:n - i≠0:=by omega
  obtain⟨q,hq⟩:∃ q,n - i=q+1:=⟨n - i - 1,by omega⟩
  rw[hq]at hst ⊢
  simp [Builtin.clear_,run_underlying Tryz.underlying55,hz,Value.cells,hst]
structure Movd (p:α→Bool) (fs xs:List α) (i j:Nat):Prop where
 len:xs.length=fs.length
 lt:i < j
 le:j≤fs.length
 front:xs.take i=(fs.take j).filter fun f=>!p f
 back:xs.drop j=fs.drop j
theorem Movd.at_ {p:α→Bool} {fs xs:List α} {i j:Nat} (h:Movd p fs xs i j) (hj:j < fs.length):∃ hx:j < xs.length,xs[j]=fs[j]:=by
 have hx:j < xs.length:=by rw[h.len];exact hj
 refine⟨hx,?_⟩
 have:=h.back
 rw[List.drop_eq_getElem_cons hx,List.drop_eq_getElem_cons hj]at this
 injection this
theorem Movd.skip {p:α→Bool} {fs xs:List α} {i j:Nat} (h:Movd p fs xs i j) (hj:j < fs.length) (hp:p fs[j]=true):Movd p fs xs i (j+1):=by
 obtain⟨h1,h2,h3,h4,h5⟩:=h
 refine⟨h1,by omega,by omega,?_,?_⟩
 ·rw[F.filter_snoc _ _ _ hj,if_neg (by simp [hp]),List.append_nil];exact h4
 ·rw[← List.drop_drop,← List.drop_drop,h5]
theorem Movd.move {p:α→Bool} {fs xs:List α} {i j:Nat} (h:Movd p fs xs i j) (hj:j < fs.length) (hp:p fs[j]=false):Movd p fs (xs.set i fs[j]) (i+1) (j+1):=by
 obtain⟨h1,h2,h3,h4,h5⟩:=h
 have hi:i < xs.length:=by omega
 refine⟨by simpa using h1,by omega,by omega,?_,?_⟩
 ·rw[F.filter_snoc _ _ _ hj,if_pos (by simp [hp]),← h4,List.take_succ_eq_append_getElem (by simpa using hi)]
  simp [List.take_set_of_le]
 ·rw[List.drop_set_of_lt (by omega),← List.drop_drop,← List.drop_drop,h5]
theorem deleteT_any (base:Nat) (A:Option Addr) (n c:Nat) (xs:List ByteArray) (w:World) (hn:n≤1099511627776) (hok:∀ x∈xs,ok x) (H:Tells g lb p ok I (ownB A c)) (hI:I w) (hr:Row w base 9 1 A n c (scells xs)) :
  Calls Tryz.prog 43 #[.slice A n c,.func (.func g) #[] lb] w (fun e w'=>∃ A',e=.returned (.slice A' (xs.filter fun x=>!p x).length c)∧Row w' base 9 1 A' (xs.filter fun x=>!p x).length c (scells (xs.filter fun x=>!p x))∧w.grownBy w' (ownB A c)):=by
 have hcap:=hr.cap
 have hl:xs.length=n:=by
  have:=hr.rd.1
  unfold scells at this
  rw[List.length_map]at this
  omega
 have HX:=Lib.hid (indexT_any A n c xs w hn hl hok H hI hr.rd)
 have HL:=Lib.hid hl
 have HOK:=Lib.hid hok
 have HH:=Lib.hid H
 have HI:=Lib.hid hI
 clear hl hok H hI
 go_enter Tryz.func43,Tryz.ntmps43
 go_wp2_with fail
 refine HX.out.mono ?_
 rintro e w1 ⟨r,rfl,hat,hb1⟩
 have hr1:=hr.below hb1
 have hg1:w.grownBy w1 (ownB A c):=⟨hb1.os,hb1.tape,hb1.output,hb1.size,fun k hk _=>hb1.block k hk⟩
 have HI1:=Lib.hid (HH.out.new _ _ HI.out hb1)
 have HG1:=Lib.hid hg1
 clear HX hr hb1 hg1
 rcases hat with ⟨rfl,hall⟩ | ⟨i0,hi0,rfl,hp0,hbef⟩
 ·have hk:(xs.filter fun x=>!p x)=xs:=List.filter_eq_self.2 (fun x hx=>by simp [hall x hx])
  have HK:=Lib.hid hk
  clear hk hall
  go_wp2
  go_ret
  exact⟨A,by rw[HK.out,HL.out];rfl,by rw[HK.out,HL.out];exact hr1,HG1.out⟩
 ·have hin:i0 < n:=by rw[← HL.out];exact hi0
  rcases hr1 with hr1 | ⟨h0,_,_⟩
  case inr=>omega
  have hM0:Movd p xs xs i0 (i0+1):=by
   refine⟨rfl,by omega,by omega,?_,rfl⟩
   rw[F.filter_snoc _ _ _ hi0,if_neg (by simp [hp0]),List.append_nil]
   exact (List.filter_eq_self.2 (fun x hx=>by simp [hbef x hx])).symm
  have HM0:=Lib.hid hM0
  obtain⟨ga,cap,hga,hbase,hlt⟩:=hr1.form (by omega)
  cases hga
  have hown:ownB (some ⟨ga,0,none⟩) c=some ga:=by unfold ownB;rw[if_neg (by omega)];rfl
  rw[hown]at HG1 HH
  have HOW:=Lib.hid hown
  have eg:=HH.out.enter
  have hne:((i0:Int)==-1)=false:=by rw[beq_eq_false_iff_ne];omega
  clear hp0 hbef hM0 hown
  go_wp2
  go_loopw [5,6,7] (fun i j _ wr=>∃ (a b:Nat) (ys:List ByteArray),i=.int .i64 a∧j=.int .i64 b∧b≤n∧a < b∧Movd p xs ys a b∧wr.ownsRow base 9 1 (.slice (some ⟨ga,0,none⟩) n c) n (scells ys)∧w1.grownBy wr (some ga)∧I wr) (fun _ j _ _=>n - (intOf j).toNat)
  case atStart=>exact⟨i0,i0+1,xs,rfl,by go_num,by omega,by omega,HM0.out,hr1,World.grownBy.refl _ _,HI1.out⟩
  case round =>
   clear hr1
   obtain⟨a,b,ys,rfl,rfl,hbn,hab,hmv,hrow,hbel,hIr⟩:=hrel
   have HMV:=Lib.hid hmv
   have HGR:=Lib.hid hbel
   have HIR:=Lib.hid hIr
   clear hmv hbel hIr
   by_cases hltb:b < n
   ·have hbl:b < xs.length:=by rw[HL.out];exact hltb
    obtain⟨hxl,hxe⟩:=HMV.out.at_ hbl
    have hal:a < ys.length:=by omega
    have hylen:ys.length=n:=by rw[HMV.out.len,HL.out]
    have cb:=hrow.cellAt b (by omega)
    have e1:(scells ys)[b]?=some (.string (xs[b]'hbl)):=by rw[← hxe];unfold scells;rw[List.getElem?_map,List.getElem?_eq_getElem hxl];rfl
    have e2:(scells ys)[a]?=some (.string (ys[a]'hal)):=by unfold scells;rw[List.getElem?_map,List.getElem?_eq_getElem hal];rfl
    rw[e1]at cb
    obtain⟨ya,hya⟩:∃ ya,ys[a]'hal=ya:=⟨_,rfl⟩
    rw[hya]at e2
    have hskip:=fun h=>HMV.out.skip hbl h
    have hmove:=fun h=>HMV.out.move hbl h
    have hcc:=HH.out.call (xs[b]'hbl) wr (HOK.out _ (List.getElem_mem hbl)) HIR.out
    obtain⟨x,hxk⟩:∃ x,x=xs[b]'hbl:=⟨_,rfl⟩
    rw[← hxk]at cb hskip hmove hcc
    have HE2:=Lib.hid e2
    clear hxk e1 hxe e2 hya
    have HSK:=Lib.hid hskip
    have HMO:=Lib.hid hmove
    clear hskip hmove
    obtain⟨t,ht⟩:∃ t,p x=t:=⟨_,rfl⟩
    rw[ht]at hcc HSK HMO
    have HRW:=Lib.hid hrow
    clear ht hrow
    cases t with
    | true =>
     have HS:=Lib.hid (HSK.out rfl)
     clear HSK HMO
     go_wp2_with (go_at_fn g;refine hcc.mono ?_;rintro e w2 ⟨rfl,hb2⟩;have hg2:wr.grownBy w2 none:=⟨hb2.os,hb2.tape,hb2.output,hb2.size,fun k hk _=>hb2.block k hk⟩;have HR2:=Lib.hid (HRW.out.kept hg2 (by simp [Value.ownBlock]));have HG2:=Lib.hid (HGR.out.trans (hg2.but (some ga)));have HI2:=Lib.hid (HH.out.new _ _ HIR.out hb2);clear hg2)
     go_roundw
     case rel=>exact⟨a,b+1,ys,rfl,by go_num,by omega,by omega,HS.out,HR2.out,HG2.out,HI2.out⟩
     case measure=>simp [intOf];omega
    | false =>
     have HS:=Lib.hid (HMO.out rfl)
     clear HSK HMO
     go_wp2_with (go_at_fn g;refine hcc.mono ?_;rintro e w2 ⟨rfl,hb2⟩;have hg2:wr.grownBy w2 none:=⟨hb2.os,hb2.tape,hb2.output,hb2.size,fun k hk _=>hb2.block k hk⟩;have hr2:=HRW.out.kept hg2 (by simp [Value.ownBlock]);have HG2:=Lib.hid (HGR.out.trans (hg2.but (some ga)));have HI2:=Lib.hid (HH.out.new _ _ HIR.out hb2);have ca:=hr2.cellAt a (by omega);rw[HE2.out]at ca;have fa:=hr2.frozenAt a;have hst:=hr2.stored a (.string x);have HST:=Lib.hid hst.2;have hrw:=hst.1;rw[scells_set]at hrw;have HRW2:=Lib.hid hrw;clear hg2 hr2 hst hrw)
     go_roundw
     case rel =>
      exact⟨a+1,b+1,_,by go_num,by go_num,by omega,by omega,HS.out,HRW2.out,HG2.out.trans (grown_set _ _ _ _),HH.out.set _ _ _ _ rfl HI2.out⟩
     case measure=>simp [intOf];omega
   ·have hbn':b=xs.length:=by rw[HL.out];omega
    have hxt:ys.take a=xs.filter fun x=>!p x:=by
     have:=HMV.out.front
     rw[hbn',List.take_length]at this
     exact this
    have hal:(xs.filter fun x=>!p x).length=a:=by
     rw[← hxt,List.length_take,HMV.out.len];omega
    have han:a < n:=by omega
    obtain⟨W,hcl,hrW,hgW⟩:=clearS hrow han
    rw[hxt]at hrW
    have HAL:=Lib.hid hal
    have HRW:=Lib.hid hrW
    have HGW:=Lib.hid hgW
    have hca:¬ c=a:=by omega
    have hca2:¬ (c:Int)=(a:Int):=by omega
    have hac:(a:Int)≤(n:Int):=by omega
    have han2:a≤n:=by omega
    have hac2:a≤c:=by omega
    clear hbn' hxt hal hrow hrW hgW
    go_wp2
    go_ret
    refine⟨some ⟨ga,0,none⟩,by rw[HAL.out];rfl,by rw[HAL.out];exact HRW.out,?_⟩
    rw[HOW.out]
    exact (HG1.out.trans HGR.out).trans HGW.out
end
end Go.Proofs.YthjeglnkgdpijaaGreatDoor
