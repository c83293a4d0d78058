/- The walks of rec.Decode and of Replay at no bytes. The walk of the store's Put. Rows of entries, and lists of a script's steps, in memory. Conditions: as each theorem states them. -/
import Derived.RangeFuncNested
import Derived.Test.YthjeglnkgdpijaaGreatDoorZ34
set_option maxHeartbeats 2000000
set_option maxRecDepth 100000
namespace Go.Proofs.YthjeglnkgdpijaaGreatDoor
open Go Go.RowKit Go.Maps
def aRD (r:R.Rc):Value:=.agg #[.int .i64 r.seq,.int .i64 r.op,.int .i64 r.no,.string r.id]
theorem aI1 (A:Option Addr) (c:Nat) (w:World):Calls Tryz.prog 169 #[.slice A 0 c] w (fun e w'=>e=.returned (.tuple #[aRD R.Rc.zero,.int .i64 0,.int .i64 0])∧Below w.heap.size w w'):=by
 have HK:=aH (Blk.new w #[.int .i64 0,.int .i64 0,.int .i64 0,.string ⟨#[]⟩] 111)
 have HB:=aH ((zB w.heap.size w).alloc (zA _) (.cells #[.int .i64 0,.int .i64 0,.int .i64 0,.string ⟨#[]⟩] 111))
 go_enter Tryz.func169,Tryz.ntmps169
 go_wp2
 obtain⟨z0,z1,z2,z3⟩:=HK.out.cells4
 (try simp only[Exit.inBlock,Exit.then])
 refine bK (v:=.tuple #[aRD R.Rc.zero,.int .i64 0,.int .i64 0]) (by simp [results,Tryz.results169,go_sem,z0,z1,z2,z3,aRD,R.Rc.zero]) rfl ?_
 exact⟨rfl,HB.out⟩
theorem aI0 (l bx:Nat) (c:Nat) (A:Option Addr) (hA:A=none→c=0) (w:World) (hc:w.cell? ⟨bx,0,none⟩=some (.slice A 0 c)) :
  Calls Tryz.prog 168 #[.func (.yield l) #[] #[],.pointer (some ⟨bx,0,none⟩)] w (fun e w'=>(∃ v,e=.returned v)∧w.grownBy w' none):=by
 have HC:=aH (fun A c u=>aI1 A c u)
 by_cases h0:c=0
 ·subst h0
  go_enter Tryz.func168,Tryz.ntmps168
  go_wp2
  go_loopw [3,4] (fun a b wr=>a=.int .i64 0∧b=.int .i64 0∧wr=w) (fun _ _ _=>0)
  case atStart=>exact⟨rfl,rfl,rfl⟩
  case round =>
   obtain⟨rfl,rfl,rfl⟩:=hrel
   go_wp2_with fail
   refine (HC.out _ _ _).mono ?_
   rintro e w1 ⟨rfl,hb⟩
   have hg:wr.grownBy w1 none:=⟨hb.os,hb.tape,hb.output,hb.size,fun k hk _=>hb.block k hk⟩
   have HG:=aH (hg.trans (World.grownBy_alloc w1 (.cells #[.int .i64 0,.int .i64 0,.int .i64 0,.string ⟨#[]⟩] 111) none))
   have HK:=aH (Blk.new w1 #[.int .i64 0,.int .i64 0,.int .i64 0,.string ⟨#[]⟩] 111)
   clear hb hg HC
   unfold aRD R.Rc.zero
   go_wp2
   refine bK (results_none rfl _ _ _) rfl ?_
   exact⟨⟨_,rfl⟩,HG.out⟩
 ·obtain⟨⟨b,o,f⟩,rfl⟩:∃ a,A=some a:=by
   cases A with
   | none=>exact absurd (hA rfl) h0
   | some a=>exact⟨a,rfl⟩
  have hcp:0 < c:=by omega
  go_enter Tryz.func168,Tryz.ntmps168
  go_wp2
  go_loopw [3,4] (fun a b wr=>a=.int .i64 0∧b=.int .i64 0∧wr=w) (fun _ _ _=>0)
  case atStart=>exact⟨rfl,rfl,rfl⟩
  case round =>
   obtain⟨rfl,rfl,rfl⟩:=hrel
   go_wp2_with fail
   refine (HC.out _ _ _).mono ?_
   rintro e w1 ⟨rfl,hb⟩
   have hg:wr.grownBy w1 none:=⟨hb.os,hb.tape,hb.output,hb.size,fun k hk _=>hb.block k hk⟩
   have HG:=aH (hg.trans (World.grownBy_alloc w1 (.cells #[.int .i64 0,.int .i64 0,.int .i64 0,.string ⟨#[]⟩] 111) none))
   have HK:=aH (Blk.new w1 #[.int .i64 0,.int .i64 0,.int .i64 0,.string ⟨#[]⟩] 111)
   clear hb hg HC
   unfold aRD R.Rc.zero
   go_wp2
   refine bK (results_none rfl _ _ _) rfl ?_
   exact⟨⟨_,rfl⟩,HG.out⟩
theorem aA4 (A:Option Addr) (n c:Nat) (w:World) :
  Calls Tryz.prog 135 #[.slice A n c] w (fun e w'=>e=.returned (.func (.func 168) #[] #[.pointer (some ⟨w.heap.size,0,none⟩)])∧w'=w.alloc (.cells #[.slice A n c] 39)):=by
 go_enter Tryz.func135,Tryz.ntmps135
 go_wp2
 go_ret
 exact⟨rfl,rfl⟩
theorem aDO (n bx n₀:Nat) (A:Option Addr) (c:Nat) (hA:A=none→c=0) (w:World) (hB:bx < w.heap.size) (hc:w.cell? ⟨bx,0,none⟩=some (.slice A 0 c)) :
  SeqStopsK Fence.wide n Tryz.prog 168 #[.pointer (some ⟨bx,0,none⟩)] (fun x:Empty=>x.elim) (Below n₀) (fun ys=>ys=[]) (fun _=>False) 0 w:=fun l J Jx W hW hJ _ _ h0 =>
 callsIn_wide.2 ((aI0 l bx c A hA W ((hW.cell (p:=⟨bx,0,none⟩) hB).trans hc)).mono fun e w' h=>⟨h.1,.inl ⟨[],rfl,hJ [] W w' none h0 h.2 (fun r hr=>by cases hr)⟩⟩)
theorem aDL (A:Option Addr) (c:Nat) (hA:A=none→c=0) (w:World) :
  Calls Tryz.prog 97 #[.slice A 0 c] w (fun e w'=>e=.returned (.tuple #[.slice none 0 0,.int .i64 0])∧Below w.heap.size w w'):=by
 refine (callsIn_wide (n:=9)).1 ?_
 refine callsIn_of_wp_marks Tryz.func97 rfl trivial ?_ rfl
 simp only[Tryz.ntmps97,List.size_toArray,List.length_cons,List.length_nil,Nat.reduceAdd,Nat.reduceSub,Array.replicate_succ,Array.replicate_zero,List.push_toArray,List.append_toArray,List.nil_append,List.cons_append]
 gi_wp2_with fail
 refine⟨trivial,(callsIn_wide.2 (aA4 _ _ _ _)).mono ?_⟩
 rintro e w' ⟨rfl,rfl⟩
 gi_wp2_with fail
 have bO:Boxed ((w.alloc (.cells #[.slice none 0 0] 103)).alloc (.cells #[.int .i64 0] 3)) w.heap.size 103 (.slice none 0 0):=(Boxed.new w 103 (.slice none 0 0)).alloc _
 have bN:Boxed ((w.alloc (.cells #[.slice none 0 0] 103)).alloc (.cells #[.int .i64 0] 3)) (w.heap.size+1) 3 (.int .i64 0):=by
  have:=Boxed.new (w.alloc (.cells #[.slice none 0 0] 103)) 3 (.int .i64 0)
  rwa [bJ]at this
 have bX:Boxed (((w.alloc (.cells #[.slice none 0 0] 103)).alloc (.cells #[.int .i64 0] 3)).alloc (.cells #[.slice A 0 c] 39)) (w.heap.size+2) 39 (.slice A 0 c):=by
  have:=Boxed.new ((w.alloc (.cells #[.slice none 0 0] 103)).alloc (.cells #[.int .i64 0] 3)) 39 (.slice A 0 c)
  rwa [bJ,bJ]at this
 have hB0:Below w.heap.size w (((w.alloc (.cells #[.slice none 0 0] 103)).alloc (.cells #[.int .i64 0] 3)).alloc (.cells #[.slice A 0 c] 39)):=(((zB _ w).alloc (zA _) _).alloc (by simp only[bJ];omega) _).alloc (by simp only[bJ];omega) _
 have bO1:=bO.alloc (.cells #[.slice A 0 c] 39)
 have bN1:=bN.alloc (.cells #[.slice A 0 c] 39)
 clear bO bN
 refine wpIn_rangeFunc_ownG rfl (by decide) (gf:=168) (lb:=#[.pointer (some ⟨w.heap.size+2,0,none⟩)]) rfl trivial (enters_of Tryz.func168 (by kernel_rfl) rfl)
  (aDO 8 (w.heap.size+2) w.heap.size A c hA _ (by simp) bX.cell) belowK_t (belowK_b (by simp only[bJ];omega)) (zB _ _) (fun x=>x.elim)
  (fun _ W=>(Boxed W w.heap.size 103 (.slice none 0 0)∧Boxed W (w.heap.size+1) 3 (.int .i64 0))∧Below w.heap.size w W)
  (fun _ _ _=>False)
  (OwnFrom.and (OwnFrom.and (Own.from (boxed_own w.heap.size 103 (fun _=>.slice none 0 0)) _) (Own.from (boxed_own (w.heap.size+1) 3 (fun _=>.int .i64 0)) _)) (ownFrom_below (zA _) (by simp only[bJ];omega)))
  (fun _ _ _ _ _ hs _ _=>hs)
  ⟨⟨bO1,bN1⟩,hB0⟩
  (fun x=>x.elim) (fun _ x=>x.elim) (fun _ _ x=>x.elim) ?done ?stop
 case done =>
  rintro D ys W hD rfl ⟨⟨hO,hN⟩,hB⟩ hK
  have hc:=hO.cell
  have hn:=hN.cell
  gi_wp2_with fail
  refine wpIn_wide.2 ?_
  go_region
  all_goals gi_wp2
  have hK2:W.drew.heap[D]?=some (.deferred (some [])):=hK
  refine⟨by simp,.inl ⟨_,_,rfl,run_takeDeferred hK2,?_⟩⟩
  refine⟨_,results_tmp2 rfl _ _ _,rfl,hB.drew.trans (belowK_b (w:=w) (zA _) W.drew D _ _ (by simp only[bJ]at hD;omega) hK2 rfl rfl)⟩
 case stop =>
  rintro D c pre W _ _ h _
  exact h.elim
theorem aPQ {B:Nat} {X:SM} {s:S.Sto} {w w1:World} {id:ByteArray} {no n:Nat} (h:eU B X s w) (hm:w1.ownsMap Tryz.prog 9 S.xW X.tb n ((S.rY s.tab).put (D.key id) (.lit (.int .i64 no)))) (hg:w.grownBy w1 (some X.tb)) (hn:no < s.used.length) :
  ∃ g,eU B X (s.took no id) (w1.setCell ⟨g,no,none⟩ (.bool true))∧aO (X.foot s) w (X.foot (s.took no id)) (w1.setCell ⟨g,no,none⟩ (.bool true))∧w1.cell? ⟨X.st,3,none⟩=some (.slice (some ⟨g,0,none⟩) s.used.length X.uc)∧w1.frozen? ⟨g,no,none⟩=false∧w1.cell? ⟨g,no,none⟩=some (.bool (s.used.getD no false)):=by
 unfold S.rY at hm
 rw[D.nN (fun n=>n)]at hm
 have h1:w1.ownsMap Tryz.prog 9 S.xW X.tb (D.put s.tab id no).length (S.rY (D.put s.tab id no)):=aA1 hm
 obtain⟨h2,hw2⟩:=h.tabbed h1 hg
 obtain⟨g,hU,hf,hc,h3,hw3⟩:=h2.marked (no:=no) hn true
 obtain⟨y0,y1,y2,y3⟩:=h2.cells
 dsimp only at hU y3 hc
 rw[hU]at y3
 exact⟨g,h3,hw2.trans hw3,y3,hf,hc⟩
theorem aL3 (B:Nat) (X:SM) (s:S.Sto) (E:O.Ent) (m:Nat) (A:Option Addr) (c:Nat) (Xb:Option Addr) (dd:Nat) (w:World) (h:eU B X s w) (hf:D.Fit m s.d) (hm:m≤134000000) (hu:D.Up s.tab) (hl:s.tab.length≤262144) (hz:∀ p∈s.tab,p.1.size≤1048576) (hc:s.count≤549755813888)
  (hlen:s.used.length≤4096) (htab:∀ p∈s.tab,p.2 < s.used.length) (hr:E.r.size≤1073741824) (hb:F.bulk E.fs≤1073741824) (hk:E.k.size≤1073741824) (hv:E.v.size≤1073741824) (hx:Rd w A E.fs.length 2 (aJ E.fs)) (hX:Rd w Xb E.body.length 1 (aB E.body)) (ht:iY w) :
  Calls Tryz.prog 35 #[.pointer (some ⟨X.st,0,none⟩),lW E A c Xb dd] w (yN B X s w (s.put E).1 (.int .i64 (s.put E).2)):=by
 have HD:=aH h
 have HF:=aH hf
 have HU:=aH hu
 have HZ:=aH hz
 have HTB:=aH htab
 have HEN:=aH (fun (u:World) (hu:Below w.heap.size w u)=>jL E.k E.v E.s E.r E.m A c E.fs Xb dd E.body E.asked E.got u hr hb (hx.below hu) (hX.below hu) (ht.below hu))
 have HID:=aH (fun (u:World)=>aOO E.k E.v u hk hv)
 have henl:(S.gY E).length≤1099511627776:=by
  unfold S.gY
  rcases O.nK E.k E.v E.s E.r E.m E.fs E.body E.asked E.got with ⟨_,h2⟩ | ⟨_,h2⟩
  ·have h3:=(O.nX (O.gB h2).1 (O.gB h2).2.1).len.2
   omega
  ·rw[h2];exact zF _
 obtain⟨G,hG⟩:∃ G,s.put E=G:=⟨_,rfl⟩
 have HG:Hid (G=if S.gU E≠0 then (s,S.gU E) else if 4096 < (S.aU E).size then (s,101) else
   match s.used.findIdx? (fun x=>decide (x=false)) with
   | none=>(s,130)
   | some no=>s.entered no (S.aU E) (S.lay s.d (S.path no) (S.gY E))):=aH hG.symm
 rw[hG]
 have e1:rQ E.k E.v E.s E.r E.m E.fs E.body E.asked E.got=S.gY E:=rfl
 have e2:xO E.k E.v E.s E.r E.m E.fs E.body.length E.asked E.got=S.gU E:=rfl
 have e3:E.k++⟨#[10]⟩++E.v=S.aU E:=rfl
 rw[e1,e2]at HEN
 rw[e3]at HID
 have HK0:=aH (Blk.new w #[.string E.k,.string E.v,.int .i64 E.s,.string E.r,.int .i64 E.m,.slice A E.fs.length c,.slice Xb E.body.length dd,.int .i64 E.asked,.int .i64 E.got] 41)
 have HB0:=aH ((zB w.heap.size w).alloc (zA _) (.cells #[.string E.k,.string E.v,.int .i64 E.s,.string E.r,.int .i64 E.m,.slice A E.fs.length c,.slice Xb E.body.length dd,.int .i64 E.asked,.int .i64 E.got] 41))
 clear h hf hu hz htab hx hX ht hG e1 e2 e3
 unfold lW
 go_enter Tryz.func35,Tryz.ntmps35
 go_upto_region 1 with fail
 generalize w.alloc (.cells #[.string E.k,.string E.v,.int .i64 E.s,.string E.r,.int .i64 E.m,.slice A E.fs.length c,.slice Xb E.body.length dd,.int .i64 E.asked,.int .i64 E.got] 41)=w0 at *
 generalize S.gU E=code at *
 generalize S.gY E=bs at *
 generalize S.aU E=id at *
 obtain⟨x0,x1,x2,x3,x4,x5,x6,x7,x8⟩:=HK0.out.cells9
 go_wp2_with fail
 clear x0 x1 x2 x3 x4 x5 x6 x7 x8
 refine (HEN.out _ HB0.out).mono ?_
 rintro e w1 ⟨A1,c1,rfl,hr1,hb1⟩
 have HB1:=aH (aA HB0.out.size HB0.out hb1)
 have HK1:=aH (HK0.out.below hb1)
 have HR1:=aH (hr1.mono HB0.out.size)
 clear hb1 hr1 HEN HB0 HK0
 by_cases h0:code=0
 rotate_left
 ·rw[if_pos h0]at HG
  have h0b:(code != 0)=true:=by simpa using h0
  go_wp2
  go_ret
  exact⟨by rw[HG.out]<;>rfl,X,by rw[HG.out];exact HD.out.below HB1.out,by rw[HG.out];exact aO.below HB1.out _,rfl,rfl,rfl⟩
 subst h0
 rw[if_neg (by simp)]at HG
 obtain⟨x0,x1,x2,x3,x4,x5,x6,x7,x8⟩:=HK1.out.cells9
 clear x2 x3 x4 x5 x6 x7 x8
 go_wp2_with fail
 clear x0 x1
 refine (HID.out _).mono ?_
 rintro e w2 ⟨rfl,hb2⟩
 have HB2:=aH (aA HB1.out.size HB1.out hb2)
 have HR2:=aH (HR1.out.below hb2)
 have HD2:=aH (HD.out.below HB2.out)
 have HW2:Hid (aO (X.foot s) w (X.foot s) w2):=aH (aO.below HB2.out _)
 have hoff:0 < bs.length→∀ a,A1=some a→¬ X.foot s a.block:=by
  intro hn a ha hfo
  have h1:=HR2.out.2.1
  rcases HR2.out.2.2 with h2 | ⟨g,h2,hB,_⟩
  ·omega
  ·rw[ha]at h2
   cases h2
   have:=HD.out.lt hfo
   dsimp only at this
   omega
 have HOFF:=aH hoff
 have HIX:=aH (aHE X.U s.used.length X.uc s.used w2 (by omega) rfl HD2.out.used.rd)
 obtain⟨y0,y1,y2,y3⟩:=HD2.out.cells
 clear y0 y1 y2 hb2 HID HB1 HK1 HR1 HD HB2 hoff
 go_wp2_with fail
 refine HIX.out.mono ?_
 rintro e w3 ⟨rfl,rfl⟩
 obtain⟨kx,hkx⟩:∃ kx,S.idxF s.used=kx:=⟨_,rfl⟩
 rw[hkx]
 clear y3 HIX
 by_cases hid4:4096 < id.size
 ·rw[if_pos hid4]at HG
  have hidi:(id.size:Int) > 4096:=by omega
  go_wp2
  go_ret
  exact⟨by rw[HG.out]<;>rfl,X,by rw[HG.out];exact HD2.out,by rw[HG.out];exact HW2.out,rfl,rfl,rfl⟩
 rw[if_neg hid4]at HG
 have hidi:¬ (id.size:Int) > 4096:=by omega
 cases hfi:s.used.findIdx? (fun x=>decide (x=false)) with
 | none =>
  rw[hfi]at HG
  obtain rfl:kx=-1:=hkx.symm.trans (S.idxF_none hfi)
  go_wp2
  go_ret
  exact⟨by rw[HG.out]<;>rfl,X,by rw[HG.out];exact HD2.out,by rw[HG.out];exact HW2.out,rfl,rfl,rfl⟩
 | some no =>
 rw[hfi]at HG
 obtain rfl:kx=(no:Int):=hkx.symm.trans (S.idxF_some hfi)
 clear hkx
 dsimp only at HG ⊢
 have hno:no < s.used.length:=by
  rw[List.findIdx?_eq_some_iff_getElem]at hfi
  exact hfi.1
 have hno4:no < 4096:=by omega
 have hnoi:¬ (no:Int) < 0:=by omega
 have HCN:=aH (count_any B X.lg X.M s.d s.count w2 HD2.out.log)
 have HP:=aH (fun u=>zL no u hno4)
 have hps:=oK no
 obtain⟨nm,hnm⟩:∃ nm,nm=S.path no:=⟨_,rfl⟩
 have HNM:=aH hnm
 rw[← hnm]at HP hps HG
 obtain⟨y0,y1,y2,y3⟩:=HD2.out.cells
 clear hfi hnm y0 y2 y3
 go_wp2_with fail
 refine HCN.out.mono ?_
 rintro e w3 ⟨rfl,rfl⟩
 clear y1 HCN
 go_wp2_with fail
 refine (HP.out _).mono ?_
 rintro e w3 ⟨rfl,hb3⟩
 have HD3:=aH (HD2.out.below hb3)
 have HW3:=aH (HW2.out.trans (aO.below hb3 _))
 have HLA:=aH (aL4 B X s m nm A1 bs.length c1 bs w3 HD3.out HF.out (by omega) hps rfl henl (HR2.out.below hb3).rd HOFF.out)
 clear hb3 HD2 HW2 HR2
 go_wp2_with fail
 refine HLA.out.mono ?_
 rintro e w4 ⟨rfl,M4,h4,hw4,hm4⟩
 obtain⟨Y,hY⟩:∃ Y,S.lay s.d nm bs=Y:=⟨_,rfl⟩
 have hF4:=S.aJQ HF.out nm bs
 rw[hY]at h4 hw4 HG hF4 ⊢
 obtain⟨d4,cr,e4⟩:=Y
 dsimp only at h4 hw4 hF4 ⊢
 have HD4:=aH h4
 have HW4:=aH (HW3.out.trans hw4)
 have HM4:=aH hm4
 have HF4:=aH hF4
 clear h4 hw4 hm4 hF4 hY HLA HD3 HW3 HOFF henl
 obtain⟨Y5,hY5⟩:∃ Y5:D.Dsk × Nat × Int,Y5=if e4=0 then S.add d4 s.count 1 no id else (d4,s.count,e4):=⟨_,rfl⟩
 have HY5:=aH hY5
 have hF5:D.Fit (m+7) Y5.1:=by
  rw[hY5]
  split
  ·exact S.aAO HF4.out _ _ _ _
  ·exact HF4.out.mono (by omega)
 have HF5:=aH hF5
 have hcnt5:Y5.2.1=s.count∨Y5.2.1=s.count+1:=by
  rw[hY5]
  split
  ·unfold S.add
   split
   ·exact .inl rfl
   ·split
    ·exact .inl rfl
    ·exact .inr rfl
  ·exact .inl rfl
 have HG5:Hid (G=if Y5.2.1=s.count then (({ s with d:=if cr then (Y5.1.remove nm).1 else Y5.1 }:S.Sto),Y5.2.2) else (((({ s with d:=Y5.1,count:=Y5.2.1 }:S.Sto).freed id).took no id).tidy,Y5.2.2)):=aH (by
  rw[HG.out,hY5,HNM.out]
  rfl)
 clear hY5 hF5 HG
 have hid2:id.size≤2147483648:=by omega
 go_upto_if 52 with fail
 go_cut [6] (fun s6 wx=>s6=.int .i64 Y5.2.2∧∃ M5,eU B { X with M:=M5 } { s with d:=Y5.1,count:=Y5.2.1 } wx∧aO (X.foot s) w (({ X with M:=M5 }:SM).foot { s with d:=Y5.1,count:=Y5.2.1 }) wx∧M5.d=X.M.d)
 case first =>
  by_cases h4:e4=0
  ·subst h4
   rw[if_pos rfl]at HY5
   have HAD:=aH (add_any B X.lg M4 d4 s.count (m+5) 1 no id w4 HD4.out.log HF4.out (by omega) (by omega) hid2)
   obtain⟨y0,y1,y2,y3⟩:=HD4.out.cells
   dsimp only at y1
   clear y0 y2 y3
   go_wp2_with fail
   refine HAD.out.mono ?_
   rintro e w5 ⟨rfl,M5,h5,hw5,hm5⟩
   obtain⟨h6,hw6⟩:=HD4.out.logged h5 hw5 hm5
   have HD6:=aH h6
   have HW6:=aH (HW4.out.trans hw6)
   have HM6:=aH (hm5.trans HM4.out)
   clear h5 hw5 hm5 h6 hw6 HAD y1 HG5
   go_wp2
   go_meet
   exact⟨by rw[HY5.out],M5,by rw[HY5.out];exact HD6.out,by rw[HY5.out];exact HW6.out,HM6.out⟩
  ·rw[if_neg h4]at HY5
   have h4b:(e4==0)=false:=beq_eq_false_iff_ne.2 h4
   go_wp2
   go_meet
   exact⟨by rw[HY5.out],M4,by rw[HY5.out];exact HD4.out,by rw[HY5.out];exact HW4.out,HM4.out⟩
 case rest =>
  obtain⟨rfl,M5,hd5,hw5,hm5⟩:=hcut
  obtain⟨d5,n5,e5⟩:=Y5
  dsimp only at hd5 hw5 HF5 hcnt5 HG5 ⊢
  have HD5:=aH hd5
  have HW5:=aH hw5
  have HM5:=aH hm5
  have HCN:=aH (count_any B X.lg M5 d5 n5 wc hd5.log)
  obtain⟨y0,y1,y2,y3⟩:=hd5.cells
  dsimp only at y0 y1 y2 y3
  clear hd5 hw5 hm5 HD4 HW4 HM4 HF4 HY5
  go_wp2_with fail
  refine HCN.out.mono ?_
  rintro e w6 ⟨rfl,rfl⟩
  clear HCN
  by_cases hn5:n5=s.count
  ·rw[if_pos hn5]at HG5
   have hnb:((n5:Int)==(s.count:Int))=true:=by rw[hn5];exact beq_self_eq_true _
   cases cr
   ·rw[if_neg (by decide)]at HG5
    have HS5:Hid (({ s with d:=d5,count:=n5 }:S.Sto)={ s with d:=d5 }):=aH (by rw[hn5])
    rw[HS5.out]at HD5 HW5
    go_wp2
    go_ret
    exact⟨by rw[HG5.out]<;>rfl,{ X with M:=M5 },by rw[HG5.out];exact HD5.out,by rw[HG5.out];exact HW5.out,rfl,HM5.out,rfl⟩
   ·rw[if_pos rfl]at HG5
    have HRM:=aH (fun (u:World) (hb:Below wc.heap.size wc u)=>kP B M5 d5 nm u (HD5.out.below hb).log.disk (HF5.out.sml (by omega)) hps)
    have hS0:Below wc.heap.size wc wc.drew:=(zB _ _).drew
    go_upto_region 16 with fail
    refine wp_region_noPanic ?_
    refine HT.begin (n:=6) (S:=(fun u=>Below wc.heap.size wc u)) (by kernel_rfl) hS0 ?_
    generalize wc.drew=wd at *
    refine HT.take 0 (.pointer (some ⟨X.st,0,none⟩)) rfl (by kernel_rfl) (fun _ _ _ h=>h) (Or.inl ⟨by rfl,?_⟩) ?_
    ·intro u hu
     go_simp
    refine HT.take 1 (.pointer (some ⟨X.st,0,none⟩)) rfl (by kernel_rfl) (fun _ _ _ h=>h) (Or.inl ⟨by rfl,?_⟩) ?_
    ·intro u hu
     go_simp
    refine HT.take 2 (.pointer (some ⟨X.st,0,none⟩)) rfl (by kernel_rfl) (fun _ _ _ h=>h) (Or.inl ⟨by rfl,?_⟩) ?_
    ·intro u hu
     go_simp
    refine HT.take 3 (.pointer (some ⟨M5.d,0,none⟩)) rfl (by kernel_rfl) (fun _ _ _ h=>h) (Or.inl ⟨by rfl,?_⟩) ?_
    ·intro u hu
     obtain⟨y0,y1,y2,y3⟩:=(HD5.out.below hu).cells
     dsimp only at y0
     go_simp
    refine HT.take 4 (.int .i64 no) rfl (by kernel_rfl) (fun _ _ _ h=>h) (Or.inl ⟨by rfl,?_⟩) (?_:HT _ _ _ _ _ _ _ ⟨#[.pointer (some ⟨X.st,0,none⟩),_,_,_,_,_,_,_,.int .i64 no,_,_,_,_,_,_,_,_,_,_,_,_,_,_,_,_,_,_,_,_,_,_,_,_,_,_,_,_,_,_,_,_,_,_,_,_,_,_,_,_,_,_,_,_,_,_,_,_,_,_,_,_,_,_,_,_,_,_,_,.pointer (some ⟨X.st,0,none⟩),.pointer (some ⟨X.st,0,none⟩),.pointer (some ⟨X.st,0,none⟩),.pointer (some ⟨M5.d,0,none⟩),.int .i64 no,_,_,_,_,_,_,_,_,_,_,_,_,_,_,_,_,_,_,_,_,_,_,_,_,_,_,_,_,_,_,_],[]⟩ _)
    ·intro u hu
     go_simp
    refine HT.step 5 rfl (by kernel_rfl) (fun hS K hK=>?_)
    go_simp
    refine (HP.out _).mono ?_
    rintro e w7 ⟨rfl,hb⟩
    refine hK.out _ _ (aA hS.size hS hb) ?_
    clear hK hS hb
    refine HT.tail _ rfl rfl (by kernel_rfl) (fun hS=>?_)
    have HB7:=aH hS
    clear hS hS0
    have HD7:=aH (HD5.out.below HB7.out)
    go_wp2_with fail
    refine (HRM.out _ HB7.out).mono ?_
    rintro e w8 hr8
    obtain⟨rfl,M8,h8,hw8,hm8⟩:=bF.sto HD7.out hr8
    have HW8:=aH (HW5.out.trans ((aO.below HB7.out _).trans hw8))
    have HD8:=aH h8
    have HM8:=aH (hm8.trans HM5.out)
    clear hr8 h8 hw8 hm8 HRM HD7
    go_wp2
    refine NoPanic.normal ?_
    go_wp2
    go_ret
    have hse:({ s with d:=(d5.remove nm).1,count:=n5 }:S.Sto)={ s with d:=(d5.remove nm).1 }:=by rw[hn5]
    exact⟨by rw[HG5.out]<;>rfl,{ X with M:=M8 },by rw[HG5.out,← hse];exact HD8.out,by rw[HG5.out,← hse];exact HW8.out,rfl,HM8.out,rfl⟩
  ·rw[if_neg hn5]at HG5
   have hn51:n5=s.count+1:=by omega
   have hnb:((n5:Int)==(s.count:Int))=false:=beq_eq_false_iff_ne.2 (by omega)
   obtain⟨s5,hs5⟩:∃ s5:S.Sto,s5={ s with d:=d5,count:=n5 }:=⟨_,rfl⟩
   have h5t:s5.tab=s.tab:=by rw[hs5]
   have h5u:s5.used=s.used:=by rw[hs5]
   have h5c:s5.count=n5:=by rw[hs5]
   have h5d:s5.d=d5:=by rw[hs5]
   rw[← hs5]at HD5 HW5 HG5
   have HFR:=aH (fun (old:Nat) (h1:old < s5.used.length) (h2:old < 4096)=>aFQ B { X with M:=M5 } s5 old (m+7) wc HD5.out (by rw[h5d];exact HF5) (by omega) h1 h2)
   have HF6:Hid (D.Fit (m+8) (s5.freed id).d):=aH (by
    unfold S.Sto.freed
    split
    ·exact S.rW (by rw[h5d];exact HF5) _
    ·rw[h5d];exact HF5.mono (by omega))
   have h6t:(s5.freed id).tab=s.tab:=by
    unfold S.Sto.freed
    split<;>exact h5t
   have h6u:(s5.freed id).used.length=s.used.length:=by
    unfold S.Sto.freed
    split
    ·show (s5.used.set _ false).length=_
     rw[List.length_set,h5u]
    ·rw[h5u]
   have h6c:(s5.freed id).count=n5:=by
    unfold S.Sto.freed
    split<;>exact h5c
   have hlk:=aIO HD5.out.tab id (by simp only[maxLen];omega)
   rw[h5t]at hlk
   dsimp only at hlk
   clear hs5 HP y0 y1 y3
   go_upto_if 85 with fail
   go_cut [11,12] (fun s11 s12 wx=>∃ X6,eU B X6 (s5.freed id) wx∧aO (X.foot s) w (X6.foot (s5.freed id)) wx∧X6.st=X.st∧X6.M.d=X.M.d∧X6.lg=X.lg)
   case first =>
    cases hfd:D.find s.tab id with
    | none =>
     have HE:Hid (s5.freed id=s5):=aH (by unfold S.Sto.freed;rw[h5t,hfd])
     go_wp2
     go_meet
     exact⟨{ X with M:=M5 },by rw[HE.out];exact HD5.out,by rw[HE.out];exact HW5.out,rfl,HM5.out,rfl⟩
    | some old =>
     have HE:Hid (s5.freed id=s5.free old):=aH (by unfold S.Sto.freed;rw[h5t,hfd])
     have hol:=HTB.out _ (D.aI hfd)
     dsimp only at hol
     have HFR1:=aH (HFR.out old (by rw[h5u];exact hol) (by omega))
     simp only[Option.getD_some]
     clear HFR hfd hlk y2
     go_wp2_with fail
     refine HFR1.out.mono ?_
     rintro e w7 ⟨rfl,X7,h7,hw7,h7a,h7b,h7c⟩
     have HD7:=aH h7
     have HW7:=aH (HW5.out.trans hw7)
     have HM7:Hid (X7.M.d=X.M.d):=aH (h7b.trans HM5.out)
     clear h7 hw7 h7b HFR1
     go_wp2
     go_meet
     exact⟨X7,by rw[HE.out];exact HD7.out,by rw[HE.out];exact HW7.out,h7a,HM7.out,h7c⟩
   case rest =>
    obtain⟨X6,hd6,hw6,h6a,h6b,h6e⟩:=hcut
    obtain⟨s6,hs6⟩:∃ s6,s6=s5.freed id:=⟨_,rfl⟩
    rw[← hs6]at hd6 hw6 h6t h6u h6c HF6 HG5
    have HD6:=aH hd6
    have HW6:=aH hw6
    have H6A:=aH h6a
    have H6B:=aH h6b
    have H6E:=aH h6e
    obtain⟨y0,y1,y2,y3⟩:=hd6.cells
    rw[h6a]at y0 y1 y2 y3
    have hl6:s6.tab.length≤262144:=by rw[h6t];exact hl
    have hti:∀ (u:World),eU B X6 (s6.took no id) u→Calls Tryz.prog 60 #[.pointer (some ⟨X.st,0,none⟩)] u (yN B X6 (s6.took no id) u (s6.took no id).tidy (.tuple #[])):=by
     intro u hu
     rw[← h6a]
     refine yT B X6 (s6.took no id) (m+8) u hu HF6.out (by omega) ?_ ?_ ?_ ?_
     ·show D.Up (D.put s6.tab id no)
      rw[h6t]
      exact D.qA HU.out _ _
     ·have:=D.eH s6.tab id no
      show (D.put s6.tab id no).length≤_
      omega
     ·intro p hp
      change p∈D.put s6.tab id no at hp
      rw[h6t]at hp
      rcases D.aX.1 hp with rfl | hp
      ·dsimp only;omega
      ·exact HZ.out p hp.1
     ·show s6.count≤_
      rw[h6c]
      omega
    have HTI:=aH hti
    have hn6:no < s6.used.length:=by rw[h6u];exact hno
    clear hti hd6 hw6 h6b h6e hs6 HD5 HW5 HFR h5t h5u h5c h5d hlk y0 y1
    obtain⟨ww,rfl⟩:∃ ww:World,ww=wc:=⟨_,rfl⟩
    go_wp2_with (at_mapUpdate;refine wpList_mapUpdate_own _ rfl _ _ _ 106 rfl 9 3 (string_keyed dA) aA0 S.xW X6.tb s6.tab.length (S.rY s6.tab) rfl HD6.out.tab (by simp only[maxLen];omega) (.string id) (.int .i64 no) (D.key id) rfl rfl (jU id (by simp only[maxLen];omega)) (.lit (.int .i64 no)) [] rfl ?_;intro w7 hown7 hgrow7;obtain⟨g8,HD8,HW8,hz8,hf8,hi8⟩:=aPQ HD6.out hown7 hgrow7 hn6;rw[H6A.out]at hz8)
    refine (HTI.out _ HD8).mono ?_
    rintro e w9 ⟨rfl,X9,h9,hw9,h9a,h9b,h9c⟩
    have HD9:=aH h9
    have HW9:=aH (HW6.out.trans (HW8.trans hw9))
    have HA9:Hid (X9.st=X.st):=aH (h9a.trans H6A.out)
    have HB9:Hid (X9.M.d=X.M.d):=aH (h9b.trans H6B.out)
    have HC9:Hid (X9.lg=X.lg):=aH (h9c.trans H6E.out)
    clear h9 hw9 h9a h9b h9c HTI HD8 HW8 hz8 hf8 hi8 hown7 hgrow7 HD6 HW6
    go_wp2
    go_ret
    exact⟨by rw[HG5.out]<;>rfl,X9,by rw[HG5.out];exact HD9.out,by rw[HG5.out];exact HW9.out,HA9.out,HB9.out,HC9.out⟩
structure EP where
 E:O.Ent
 A:Option Addr
 c:Nat
 X:Option Addr
 d:Nat
def EP.v (p:EP):Value:=lW p.E p.A p.c p.X p.d
def dC:List EP→List Value
 | []=>[]
 | p::t=>.string p.E.k::.string p.E.v::.int .i64 p.E.s::.string p.E.r::.int .i64 p.E.m::.slice p.A p.E.fs.length p.c::.slice p.X p.E.body.length p.d::.int .i64 p.E.asked::.int .i64 p.E.got::dC t
theorem nM:∀ l m:List EP,dC (l++m)=dC l++dC m
 | [],m=>rfl
 | p::t,m=>by simp [dC,nM t m]
theorem yF:∀ l:List EP,∀ u∈dC l,u.oneCell'=true
 | [],u,h=>by cases h
 | p::t,u,h=>by
  simp only[dC,List.mem_cons]at h
  rcases h with rfl | rfl | rfl | rfl | rfl | rfl | rfl | rfl | rfl | h
  iterate 9 rfl
  exact yF t u h
theorem aCF:∀ (l:List EP) (k:Nat) (h:k < l.length),(dC l)[k * 9]?=some (.string l[k].E.k)∧(dC l)[k * 9+1]?=some (.string l[k].E.v)∧(dC l)[k * 9+2]?=some (.int .i64 l[k].E.s)∧(dC l)[k * 9+3]?=some (.string l[k].E.r)∧(dC l)[k * 9+4]?=some (.int .i64 l[k].E.m)∧(dC l)[k * 9+5]?=some (.slice l[k].A l[k].E.fs.length l[k].c)∧(dC l)[k * 9+6]?=some (.slice l[k].X l[k].E.body.length l[k].d)∧(dC l)[k * 9+7]?=some (.int .i64 l[k].E.asked)∧(dC l)[k * 9+8]?=some (.int .i64 l[k].E.got)
 | p::t,0,_=>by simp [dC]
 | p::t,k+1,h=>by
  have:=aCF t k (by simpa using h)
  have e:(k+1) * 9=k * 9+9:=by omega
  simp only[dC,e,List.getElem_cons_succ]
  exact this
def EAt (w:World) (b o:Nat) (p:EP):Prop:=w.cell? ⟨b,o,none⟩=some (.string p.E.k)∧w.cell? ⟨b,o+1,none⟩=some (.string p.E.v)∧w.cell? ⟨b,o+2,none⟩=some (.int .i64 p.E.s)∧w.cell? ⟨b,o+3,none⟩=some (.string p.E.r)∧w.cell? ⟨b,o+4,none⟩=some (.int .i64 p.E.m)∧w.cell? ⟨b,o+5,none⟩=some (.slice p.A p.E.fs.length p.c)∧w.cell? ⟨b,o+6,none⟩=some (.slice p.X p.E.body.length p.d)∧w.cell? ⟨b,o+7,none⟩=some (.int .i64 p.E.asked)∧w.cell? ⟨b,o+8,none⟩=some (.int .i64 p.E.got)
theorem aOH {w:World} {A:Option Addr} {n k:Nat} {l:List EP} (h:Rd w A n 9 (dC l)) (hk:k < n) (hl:l.length=n):∃ b o,A=some ⟨b,o,none⟩∧b < w.heap.size∧EAt w b (o+k * 9) (l[k]'(by omega)):=by
 obtain⟨b,o,rfl,hb,hc⟩:=h.2 (by omega)
 obtain⟨h0,h1,h2,h3,h4,h5,h6,h7,h8⟩:=aCF l k (by omega)
 refine⟨b,o,rfl,hb,hc _ _ h0,?_,?_,?_,?_,?_,?_,?_,?_⟩
 all_goals rw[Nat.add_assoc]
 ·exact hc _ _ h1
 ·exact hc _ _ h2
 ·exact hc _ _ h3
 ·exact hc _ _ h4
 ·exact hc _ _ h5
 ·exact hc _ _ h6
 ·exact hc _ _ h7
 ·exact hc _ _ h8
def ERd (w:World) (p:EP):Prop:=Rd w p.A p.E.fs.length 2 (aJ p.E.fs)∧Rd w p.X p.E.body.length 1 (aB p.E.body)
def gZ (w:World) (base:Nat) (p:EP):Prop:=Row w base 60 2 p.A p.E.fs.length p.c (aJ p.E.fs)∧Row w base 5 1 p.X p.E.body.length p.d (aB p.E.body)
section
variable {w w':World} {base:Nat} {p:EP} {F F':Nat→Prop}
theorem ERd.below (h:ERd w p) (hb:Below w.heap.size w w'):ERd w' p:=⟨h.1.below hb,h.2.below hb⟩
theorem gZ.rd (h:gZ w base p):ERd w p:=⟨h.1.rd,h.2.rd⟩
theorem gZ.below (h:gZ w base p) (hb:Below w.heap.size w w'):gZ w' base p:=⟨h.1.below hb,h.2.below hb⟩
theorem gZ.mono (h:gZ w base p) {b:Nat} (hb:b≤base):gZ w b p:=⟨h.1.mono hb,h.2.mono hb⟩
theorem gZ.went (h:gZ w base p) (hw:aO F w F' w') (hF:∀ k,F k→k < base):gZ w' base p :=
 ⟨hw.row h.1 (fun k hk hf=>by have:=(h.1.lt k hk).1;have:=hF k hf;omega),hw.row h.2 (fun k hk hf=>by have:=(h.2.lt k hk).1;have:=hF k hf;omega)⟩
end
structure aLF (w:World) (base:Nat) (A:Option Addr) (c:Nat) (l:List EP):Prop where
 row:Row w base 41 9 A l.length c (dC l)
 all:∀ p∈l,gZ w base p
section
variable {w w' w1 w2:World} {base:Nat} {A:Option Addr} {c:Nat} {l:List EP} {F F':Nat→Prop}
theorem aLF.nil (w:World) (base:Nat) (A:Option Addr):aLF w base A 0 []:=⟨Row.empty _ _ _ _ _,by simp⟩
theorem aLF.below (h:aLF w base A c l) (hb:Below w.heap.size w w'):aLF w' base A c l:=⟨h.row.below hb,fun p hp=>(h.all p hp).below hb⟩
theorem aLF.went (h:aLF w base A c l) (hw:aO F w F' w') (hF:∀ k,F k→k < base):aLF w' base A c l :=
 ⟨hw.row h.row (fun k hk hf=>by have:=(h.row.lt k hk).1;have:=hF k hf;omega),fun p hp=>(h.all p hp).went hw hF⟩
theorem aLF.snoc {A':Option Addr} {c':Nat} {p:EP} (h:aLF w1 base A c l) (hx:gZ w1 base p) (hr:Row w2 base 41 9 A' (l.length+1) c' (dC (l++[p]))) (ha:App w1 w2 A c A' c'):aLF w2 base A' c' (l++[p]):=by
 refine⟨by rw[bC];exact hr,fun q hq=>?_⟩
 have hq1:gZ w1 base q:=by
  rcases List.mem_append.1 hq with hm | hm
  ·exact h.all q hm
  ·rw[List.mem_singleton.1 hm];exact hx
 exact⟨hq1.1.keptG ha.grown (fun k hk e=>(hq1.1.tag hk).ne (h.row.tag e) (by decide) rfl),hq1.2.keptG ha.grown (fun k hk e=>(hq1.2.tag hk).ne (h.row.tag e) (by decide) rfl)⟩
end
theorem Tryz.infoEnt:(Tryz.prog.info? 41).map (fun i=>(i.zero,i.size,i.bytes))=some (some (.agg #[.string ⟨#[]⟩,.string ⟨#[]⟩,.int .i64 0,.string ⟨#[]⟩,.int .i64 0,.slice none 0 0,.slice none 0 0,.int .i64 0,.int .i64 0]),9,128):=by kernel_rfl
section
variable (w:World) {ops:Array Oper} {rest:List Oper} {o:Oper} {a:Act} {K:Act→World→Prop} {Q:Exit→Act→World→Prop}
theorem aOS (hgd:o.guard=none) (s x:Operand) (ho:o.op=.call { callee:=.builtin .append,args:=#[s,x],argTypes:=#[36,36] })
  (base:Nat) (A:Option Addr) (n c:Nat) (xs:List EP) (hs:a.eval s=.slice A n c) (hown:Row w base 41 9 A n c (dC xs))
  (S:Option Addr) (m d:Nat) (news:List EP) (hx:a.eval x=.slice S m d) (hr:Rd w S m 9 (dC news)) (h63:n+m≤549755813888) (hbase:base≤w.heap.size)
  (h:∀ A' c' w',Row w' base 41 9 A' (n+m) c' (dC (xs++news))→App w w' A c A' c'→wpList Tryz.prog ops Q rest (a.put o.dst (.slice A' (n+m) c')) w'):wpList Tryz.prog ops Q (o::rest) a w:=by
 refine wpList_plain hgd fun _ hK=>?_
 obtain⟨i0,hi0,hz0,hz1,hz2⟩:=info_parts Tryz.infoEnt
 exact pW w s x _ ho _ i0 _ 9 128 Tryz.underlying36 hi0 hz0 hz1 hz2 rfl (by omega) base A n c _ hs hown S m d _ hx hr (yF news) (by simp only[maxLen];omega) (by omega) hbase (fun A' c' w' h2 h3=>hK _ _ (h A' c' w' (by rw[nM];exact h2) h3))
end
end Go.Proofs.YthjeglnkgdpijaaGreatDoor
