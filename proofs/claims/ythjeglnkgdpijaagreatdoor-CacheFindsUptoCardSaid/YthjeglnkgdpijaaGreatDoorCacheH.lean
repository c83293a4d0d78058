/- The walk of cache's Find (printed by gen/cacheh.py). -/
import Derived.Test.YthjeglnkgdpijaaGreatDoorZ08
set_option maxHeartbeats 8000000
set_option maxRecDepth 100000
namespace Go.Proofs.YthjeglnkgdpijaaGreatDoor
open Go Go.RowKit Go.Maps
namespace C
def better (a:CSt) (key:ByteArray) (ask:List FD) (o:Option (ByteArray × O.Ent)) (id:ByteArray):Bool:=match entry a id with
 | none=>false
 | some E=>decide (E.k=key)&&(V.matches E ask&&match o with
  | none=>true
  | some b=>decide (b.2.got≤E.got))
def mY (a:CSt) (key:ByteArray) (ask:List FD) (o:Option (ByteArray × O.Ent)) (id:ByteArray):Option (ByteArray × O.Ent):=if better a key ask o id=true then some (id,(entry a id).getD O.Ent.zero) else o
def pick (a:CSt) (key:ByteArray) (ask:List FD) (l:List ByteArray):Option (ByteArray × O.Ent):=l.foldl (mY a key ask) none
theorem aBO (a:CSt) (key:ByteArray) (ask:List FD) (l:List ByteArray) (k:Nat) (h:k < l.length):pick a key ask (l.take (k+1))=mY a key ask (pick a key ask (l.take k)) l[k]:=by
 unfold pick
 rw[bI h,List.foldl_append]
 rfl
theorem aKU {l:List ByteArray} {key x:ByteArray} (h:x∈aV l key):0 < x.size:=by
 have h2:=(List.mem_filter.1 h).2
 unfold other at h2
 rw[Bool.not_not]at h2
 have h3:=Lib.hasPrefix_of_take (L x) (L key++[10])
 rw[h2]at h3
 have h4:¬ x.size=0:=fun e=>by
  have:L x=[]:=List.eq_nil_of_length_eq_zero (by rw[← aS];exact e)
  rw[this]at h2
  unfold Lib.hasPrefix at h2
  simp at h2
 omega
end C
structure C.Good (ask:List FD) (E:O.Ent):Prop where
 enc:S.gU E=0
 fits:V.Fits E.fs ask
 r:E.r.size≤1073741824
 bulk:F.bulk E.fs≤1073741824
 body:E.body.length≤1099511627776
def aQV (B room:Nat) (Z:CM) (a:CSt) (o:Option (ByteArray × O.Ent)) (w:World) (e:Ending) (w':World):Prop:=match o with
 | none=>e=.returned (.tuple #[EP.nil.v,.bool false])∧Below w.heap.size w w'
 | some x=>∃ (q:EP) (l':List It),e=.returned (.tuple #[q.v,.bool true])∧q.E=x.2∧gZ w' w.heap.size q∧(∀ k,ownB q.A q.c=some k∨ownB q.X q.d=some k→¬ Z.foot { a with l:=l' } k)∧CAt B room Z { a with l:=l' } w'∧aO (Z.foot a) w (Z.foot { a with l:=l' }) w'∧pV w a.l l' x.1 x.2
def aF7 (B:Nat) (Z:CM) (a:CSt) (o:Option (ByteArray × O.Ent)) (found:ByteArray) (q:EP) (w:World):Prop :=
 gZ w B q∧(∀ k,ownB q.A q.c=some k∨ownB q.X q.d=some k→¬ Z.foot a k)∧((o=none∧found=⟨#[]⟩)∨(o=some (found,q.E)∧0 < found.size∧C.entry a found=some q.E∧found.size≤1073741824))
theorem aIT {x:ByteArray} (h:0 < x.size):¬ x.toList=[]∧x.toList.isEmpty=false:=by
 have h1:¬ x.toList=[]:=fun e=>by
  have h2:L x=[]:=by rw[← fQ];exact e
  have h3:x.size=0:=by rw[aS,h2];rfl
  omega
 refine⟨h1,?_⟩
 cases hx:x.toList with
 | nil=>exact absurd hx h1
 | cons _ _=>rfl
theorem aFS (B room m:Nat) (Z:CM) (a:CSt) (key:ByteArray) (Y:Option Addr) (cy:Nat) (ask:List FD) (w:World) (h:CAt B room Z a w) (hf:∀ s,a.s=some s→C.Fine m s) (hm:m≤134000000) (hg:∀ id E,C.entry a id=some E→C.Good ask E) (hk:key.size≤268435456) (hy:Rd w Y ask.length 2 (aJ ask)) (hT:∀ u,Below B w u→Tabs u) (hB:B≤w.heap.size) :
  Calls Tryz.prog 13 #[.pointer (some ⟨Z.c,0,none⟩),.string key,.slice Y ask.length cy] w (aQV B room Z a (C.pick a key ask (C.aV (C.ids a) key)) w):=by
 obtain⟨w0,hw0⟩:∃ w0,w.alloc (.cells #[.string ⟨#[]⟩,.string ⟨#[]⟩,.int .i64 0,.string ⟨#[]⟩,.int .i64 0,.slice none 0 0,.slice none 0 0,.int .i64 0,.int .i64 0] 41)=w0:=⟨_,rfl⟩
 have hs0:w0.heap.size=w.heap.size+1:=by rw[← hw0];exact bJ ..
 have hk0:Blk w0 w.heap.size #[.string ⟨#[]⟩,.string ⟨#[]⟩,.int .i64 0,.string ⟨#[]⟩,.int .i64 0,.slice none 0 0,.slice none 0 0,.int .i64 0,.int .i64 0] 41:=by rw[← hw0];exact Blk.new w _ _
 have hb0:Below w.heap.size w w0:=by rw[← hw0];exact (zB _ _).alloc (zA _) _
 obtain⟨w1,hw1⟩:∃ w1,w0.alloc (.cells #[.string ⟨#[]⟩,.string ⟨#[]⟩,.int .i64 0,.string ⟨#[]⟩,.int .i64 0,.slice none 0 0,.slice none 0 0,.int .i64 0,.int .i64 0] 41)=w1:=⟨_,rfl⟩
 have hs1:w1.heap.size=w.heap.size+2:=by rw[← hw1,bJ,hs0]
 have hk1:Blk w1 (w.heap.size+1) #[.string ⟨#[]⟩,.string ⟨#[]⟩,.int .i64 0,.string ⟨#[]⟩,.int .i64 0,.slice none 0 0,.slice none 0 0,.int .i64 0,.int .i64 0] 41:=by rw[← hw1,← hs0];exact Blk.new w0 _ _
 have hb1:Below w0.heap.size w0 w1:=by rw[← hw1];exact (zB _ _).alloc (zA _) _
 have HB1:=aH (aA hb0.size hb0 hb1)
 have HK6:=aH (hk0.below hb1)
 have HK8:=aH hk1
 have HS1:=aH hs1
 have H:=aH h
 have HF:=aH hf
 have HG:=aH hg
 have HY:=aH hy
 have HT:=aH hT
 have HSM:=aH (C.vP hf (fun x hx=>(h.mem.small x hx).1))
 have HLEN:Hid ((C.ids a).length≤1099511627776):=aH (bD (List.length_filter_le _ _) (C.all_len h hf))
 have HI:=aH (qK B room Z a m w1 (h.below HB1.out) hf)
 have HBG:=aH (fun A c u (hr:Row u w1.heap.size 9 1 A (C.ids a).length c (aF (C.ids a))) (hb:Below w1.heap.size w1 u)=>qM w1.heap.size A (C.ids a).length c (C.ids a) key u HLEN.out hr (by omega) hb.size)
 obtain⟨ids,hids⟩:∃ ids,C.aV (C.ids a) key=ids:=⟨_,rfl⟩
 have HPOS:=aH (fun x (hx:x∈C.aV (C.ids a) key)=>C.aKU hx)
 have HSI:=aH (fun x (hx:x∈C.aV (C.ids a) key)=>HSM.out x (List.mem_filter.1 (List.mem_filter.1 hx).1).1)
 have HLI:Hid ((C.aV (C.ids a) key).length≤1099511627776):=aH (bD (List.length_filter_le _ _) HLEN.out)
 rw[hids]at HBG HPOS HSI HLI ⊢
 obtain⟨l0,hl0⟩:∃ l0,C.ids a=l0:=⟨_,rfl⟩
 rw[hl0]at HI HBG
 clear hids hl0 HLEN HSM h hf hg hy hT hb0 hb1 hk0 hk1 hs0 hs1
 go_enter Tryz.func13,Tryz.ntmps13
 go_upto_region 3 with fail
 have e0:w0.heap.size=w.heap.size+1:=by have:=HS1.out;rw[← hw1,bJ]at this;omega
 rw[e0]
 clear e0 hw0 hw1 w0
 go_wp2_with fail
 refine HI.out.mono ?_
 rintro e w2 ⟨A2,c2,rfl,hr2,hb2⟩
 have HBG2:=aH (HBG.out A2 c2 w2 hr2 hb2)
 have HOW:=aH (fun k hk=>(hr2.lt k hk).1)
 have HB2:=aH hb2
 clear hr2 hb2 HI HBG
 go_wp2_with fail
 refine HBG2.out.mono ?_
 rintro e w3 ⟨A3,rfl,hr3,hg3⟩
 have hb3:=HB2.out.grown hg3 HB2.out.size HOW.out
 have HB3:=aH (HB1.out.trans (hb3.mono (by have:=HS1.out;omega)))
 have HR3:=aH hr3
 have HK63:=aH (HK6.out.below hb3)
 have HK83:=aH (HK8.out.below hb3)
 have HS3:Hid (w.heap.size+2≤w3.heap.size):=aH (by have:=hb3.size;have:=HS1.out;omega)
 have HBS:Hid (w.heap.size+2≤w1.heap.size):=aH (Nat.le_of_eq HS1.out.symm)
 obtain⟨bs,hbs⟩:∃ bs,w1.heap.size=bs:=⟨_,rfl⟩
 rw[hbs]at HR3 HBS
 obtain⟨n,hn⟩:∃ n,ids.length=n:=⟨_,rfl⟩
 have HN:=aH hn
 have HLN:Hid (n≤1099511627776):=aH (by rw[← hn];exact HLI.out)
 rw[hn]at HR3 ⊢
 clear hbs hn hr3 hg3 hb3 HBG2 HOW HB2 HB1 HK6 HK8 HS1 HLI
 have hn2:=HLN.out
 go_wp2
 go_loopw [9,11,12,13,21] (fun fnd _ _ _ i wr=>∃ (k:Nat) (found:ByteArray) (q:EP),k≤n∧fnd=.string found∧i=.int .i64 k∧aF7 B Z a (C.pick a key ask (ids.take k)) found q wr∧Below w.heap.size w wr∧Blk wr w.heap.size #[.string ⟨#[]⟩,.string ⟨#[]⟩,.int .i64 0,.string ⟨#[]⟩,.int .i64 0,.slice none 0 0,.slice none 0 0,.int .i64 0,.int .i64 0] 41∧Blk wr (w.heap.size+1) #[.string q.E.k,.string q.E.v,.int .i64 q.E.s,.string q.E.r,.int .i64 q.E.m,.slice q.A q.E.fs.length q.c,.slice q.X q.E.body.length q.d,.int .i64 q.E.asked,.int .i64 q.E.got] 41∧Row wr bs 9 1 A3 n c2 (aF ids)) (fun _ _ _ _ i _=>n - (intOf i).toNat)
 case atStart=>exact⟨0,⟨#[]⟩,EP.nil,zF _,rfl,rfl,⟨⟨Row.none_ _ _ _ _,Row.none_ _ _ _ _⟩,(fun k hk=>by rcases hk with hk | hk<;>cases hk),.inl ⟨rfl,rfl⟩⟩,HB3.out,HK63.out,HK83.out,HR3.out⟩
 case round =>
  obtain⟨k,found,q,hkn,rfl,rfl,hbest,hbe,hk6,hk8,hrow⟩:=hrel
  have HBE:=aH hbe
  have HQ:=aH hbest
  have HK6:=aH hk6
  have HK8:=aH hk8
  have HROW:=aH hrow
  have HZ:=aH hk8.lt
  clear hbest hbe hk6 hk8 hrow HB3 HK63 HK83 HR3 HS3
  obtain⟨wo,rfl⟩:∃ wo:World,wo=wr:=⟨_,rfl⟩
  by_cases hlt:k < n
  ·have hki:k < ids.length:=by rw[HN.out];exact hlt
   obtain⟨b,o,rfl,hb,cx⟩:=HROW.out.rd.str hlt HN.out
   have HPK:=aH (C.aBO a key ask ids k hki)
   have HXP:=aH (HPOS.out _ (List.getElem_mem hki))
   have hxs:=HSI.out _ (List.getElem_mem hki)
   obtain⟨id,hid⟩:∃ id,ids[k]'hki=id:=⟨_,rfl⟩
   rw[hid]at cx HPK HXP hxs
   have HXS:=aH hxs
   clear hid hki
   have HEN:=aH (aCB B room Z a id m wo (H.out.below HBE.out) (bD hxs (by decide)) (fun s hs=>⟨(HF.out s hs).fit,fun p hp=>Nat.lt_of_lt_of_le ((HF.out s hs).no p hp) (HF.out s hs).used⟩) (by omega) (HT.out wo (HBE.out.mono hB)) (bD hB HBE.out.size))
   clear hxs hb
   go_wp2_with fail
   clear cx
   refine HEN.out.mono ?_
   rintro e w4 ⟨y,rfl,hyE,hyO,hb4,hyF⟩
   obtain⟨w5,hw5⟩:∃ w5,w4.alloc (.cells #[.string ⟨#[]⟩,.string ⟨#[]⟩,.int .i64 0,.string ⟨#[]⟩,.int .i64 0,.slice none 0 0,.slice none 0 0,.int .i64 0,.int .i64 0] 41)=w5:=⟨_,rfl⟩
   have hb5:Below w4.heap.size w4 w5:=by rw[← hw5];exact (zB _ _).alloc (zA _) _
   have hk5:Blk w5 w4.heap.size #[.string ⟨#[]⟩,.string ⟨#[]⟩,.int .i64 0,.string ⟨#[]⟩,.int .i64 0,.slice none 0 0,.slice none 0 0,.int .i64 0,.int .i64 0] 41:=by rw[← hw5];exact Blk.new w4 _ _
   have hne6:w.heap.size≠w4.heap.size:=by have h1:=hb4.size;have h2:=HZ.out;omega
   have hne8:w.heap.size+1≠w4.heap.size:=by have h1:=hb4.size;have h2:=HZ.out;omega
   obtain⟨z0,z1,z2,z3,z4,z5,z6,z7,z8⟩:=hk5.cells9
   obtain⟨g0,g1,g2,g3,g4,g5,g6,g7,g8⟩:=hk5.free9
   have hk12:=hk5.set9 (.string y.E.k) (.string y.E.v) (.int .i64 y.E.s) (.string y.E.r) (.int .i64 y.E.m) (.slice y.A y.E.fs.length y.c) (.slice y.X y.E.body.length y.d) (.int .i64 y.E.asked) (.int .i64 y.E.got)
   have HK12:=aH hk12
   have HK6B:=aH (((HK6.out.below hb4).below hb5).nine_far hne6 (.string y.E.k) (.string y.E.v) (.int .i64 y.E.s) (.string y.E.r) (.int .i64 y.E.m) (.slice y.A y.E.fs.length y.c) (.slice y.X y.E.body.length y.d) (.int .i64 y.E.asked) (.int .i64 y.E.got))
   have HK8B:=aH (((HK8.out.below hb4).below hb5).nine_far hne8 (.string y.E.k) (.string y.E.v) (.int .i64 y.E.s) (.string y.E.r) (.int .i64 y.E.m) (.slice y.A y.E.fs.length y.c) (.slice y.X y.E.body.length y.d) (.int .i64 y.E.asked) (.int .i64 y.E.got))
   have HB45:=aH (aN hb5 (zA _) (.string y.E.k) (.string y.E.v) (.int .i64 y.E.s) (.string y.E.r) (.int .i64 y.E.m) (.slice y.A y.E.fs.length y.c) (.slice y.X y.E.body.length y.d) (.int .i64 y.E.asked) (.int .i64 y.E.got))
   have HYO:=aH ((hyO.below hb5).nine_far hk5.tag (.string y.E.k) (.string y.E.v) (.int .i64 y.E.s) (.string y.E.r) (.int .i64 y.E.m) (.slice y.A y.E.fs.length y.c) (.slice y.X y.E.body.length y.d) (.int .i64 y.E.asked) (.int .i64 y.E.got))
   have HYE:=aH hyE
   have HYF:=aH hyF
   have HB4:=aH hb4
   unfold nine at HK12 HK6B HK8B HB45 HYO
   obtain⟨ok,hok⟩:∃ ok,(C.entry a id).isSome=ok:=⟨_,rfl⟩
   rw[hok]
   have HOK:=aH hok
   unfold EP.v lW
   clear hk5 hk12 hyE hyO hyF hb4 hb5 hne6 hne8 hok HEN
   go_upto_region 7 with fail
   obtain⟨w6,hw6⟩:∃ w6,(((((((((w5.setCell ⟨w4.heap.size,0,none⟩ (.string y.E.k)).setCell ⟨w4.heap.size,1,none⟩ (.string y.E.v)).setCell ⟨w4.heap.size,2,none⟩ (.int .i64 y.E.s)).setCell ⟨w4.heap.size,3,none⟩ (.string y.E.r)).setCell ⟨w4.heap.size,4,none⟩ (.int .i64 y.E.m)).setCell ⟨w4.heap.size,5,none⟩ (.slice y.A y.E.fs.length y.c)).setCell ⟨w4.heap.size,6,none⟩ (.slice y.X y.E.body.length y.d)).setCell ⟨w4.heap.size,7,none⟩ (.int .i64 y.E.asked)).setCell ⟨w4.heap.size,8,none⟩ (.int .i64 y.E.got))=w6:=⟨_,rfl⟩
   rw[hw6]at HK12 HK6B HK8B HB45 HYO ⊢
   have HB6:=aH (aA HB4.out.size HB4.out HB45.out)
   have HBE6:=aH (aA HBE.out.size HBE.out HB6.out)
   have HROW6:=aH (HROW.out.below HB6.out)
   have HQ6:Hid (aF7 B Z a (C.pick a key ask (ids.take k)) found q w6):=aH ⟨HQ.out.1.below HB6.out,HQ.out.2⟩
   clear hw5 hw6 z0 z1 z2 z3 z4 z5 z6 z7 z8 g0 g1 g2 g3 g4 g5 g6 g7 g8 HB4 HB45 HB6 HBE HROW HQ HK6 HK8
   generalize w4.heap.size=b12 at *
   obtain⟨bt,hbt⟩:∃ bt,C.better a key ask (C.pick a key ask (ids.take k)) id=bt:=⟨_,rfl⟩
   have HNO:Hid (bt=false→C.mY a key ask (C.pick a key ask (ids.take k)) id=C.pick a key ask (ids.take k)):=aH (fun e=>by unfold C.mY;rw[hbt,e];rfl)
   have HYES:Hid (bt=true→C.mY a key ask (C.pick a key ask (ids.take k)) id=some (id,y.E)):=aH (fun e=>by unfold C.mY;rw[hbt,e,← HYE.out];rfl)
   have HBT:=aH hbt
   clear hbt
   -- what stands behind a round in which nothing better came up
   have HEND:Hid (∀ u,Below w6.heap.size w6 u→bt=false→aF7 B Z a (C.pick a key ask (ids.take (k+1))) found q u∧Below w.heap.size w u∧Blk u w.heap.size #[.string ⟨#[]⟩,.string ⟨#[]⟩,.int .i64 0,.string ⟨#[]⟩,.int .i64 0,.slice none 0 0,.slice none 0 0,.int .i64 0,.int .i64 0] 41∧Blk u (w.heap.size+1) #[.string q.E.k,.string q.E.v,.int .i64 q.E.s,.string q.E.r,.int .i64 q.E.m,.slice q.A q.E.fs.length q.c,.slice q.X q.E.body.length q.d,.int .i64 q.E.asked,.int .i64 q.E.got] 41∧Row u bs 9 1 (some ⟨b,o,none⟩) n c2 (aF ids)):=aH (fun u hu e=>⟨by rw[HPK.out,HNO.out e];exact⟨HQ6.out.1.below hu,HQ6.out.2⟩,aA HBE6.out.size HBE6.out hu,HK6B.out.below hu,HK8B.out.below hu,HROW6.out.below hu⟩)
   obtain⟨v0,v1,v2,v3,v4,v5,v6,v7,v8⟩:=HK12.out.cells9
   cases ok with
   | false =>
    have hbf:bt=false:=by
     rw[← HBT.out]
     unfold C.better
     cases he:C.entry a id with
     | none=>rfl
     | some E=>have h1:=HOK.out;rw[he]at h1;cases h1
    have HE0:=aH (HEND.out w6 (zB _ _) hbf)
    clear hbf HEND
    go_wp2
    go_roundw
    case rel=>exact⟨k+1,found,q,by omega,rfl,by go_num,HE0.out⟩
    case measure=>simp [intOf];omega
   | true =>
    obtain⟨E,hE⟩:=Option.isSome_iff_exists.1 HOK.out
    have hyE2:y.E=E:=by rw[HYE.out,hE];rfl
    have HEE:Hid (C.entry a id=some y.E):=aH (by rw[hE,hyE2])
    clear hE hyE2
    have HGD:=aH (HG.out id y.E HEE.out)
    have HBV:Hid (bt=(decide (y.E.k=key)&&(V.matches y.E ask&&match C.pick a key ask (ids.take k) with | none=>true | some b=>decide (b.2.got≤y.E.got)))):=aH (by rw[← HBT.out];unfold C.better;rw[HEE.out])
    by_cases hkey:y.E.k=key
    rotate_left
    ·have hk1:(y.E.k.toList==key.toList)=false:=by rw[bM];exact decide_eq_false hkey
     have HE0:=aH (HEND.out w6 (zB _ _) (by rw[HBV.out,decide_eq_false hkey];rfl))
     clear hkey HEND
     go_wp2
     go_roundw
     case rel=>exact⟨k+1,found,q,by omega,rfl,by go_num,HE0.out⟩
     case measure=>simp [intOf];omega
    ·have hk1:(y.E.k.toList==key.toList)=true:=by rw[bM];exact decide_eq_true hkey
     have HKEY:=aH hkey
     have HMT:=aH (uI y Y cy ask w6 HYO.out.rd (HY.out.below HBE6.out) HGD.out.fits)
     unfold EP.v lW at HMT
     clear hkey
     obtain⟨mt,hmt⟩:∃ mt,V.matches y.E ask=mt:=⟨_,rfl⟩
     rw[hmt]at HMT HBV
     clear hmt
     cases mt with
     | false =>
      go_wp2_with fail
      refine HMT.out.mono ?_
      rintro e w7 ⟨rfl,hb7⟩
      have HE0:=aH (HEND.out w7 hb7 (by rw[HBV.out,decide_eq_true HKEY.out];rfl))
      clear hb7 HMT HEND
      go_wp2
      go_roundw
      case rel=>exact⟨k+1,found,q,by omega,rfl,by go_num,HE0.out⟩
      case measure=>simp [intOf];omega
     | true =>
      have HBU:Hid (bt=(match C.pick a key ask (ids.take k) with | none=>true | some b=>decide (b.2.got≤y.E.got))):=aH (by rw[HBV.out,decide_eq_true HKEY.out];rfl)
      -- what stands behind a round in which a better one came up
      have HWIN:Hid (∀ u,Below w6.heap.size w6 u→bt=true→aF7 B Z a (C.pick a key ask (ids.take (k+1))) id y (nine u (w.heap.size+1) (.string y.E.k) (.string y.E.v) (.int .i64 y.E.s) (.string y.E.r) (.int .i64 y.E.m) (.slice y.A y.E.fs.length y.c) (.slice y.X y.E.body.length y.d) (.int .i64 y.E.asked) (.int .i64 y.E.got))∧Below w.heap.size w (nine u (w.heap.size+1) (.string y.E.k) (.string y.E.v) (.int .i64 y.E.s) (.string y.E.r) (.int .i64 y.E.m) (.slice y.A y.E.fs.length y.c) (.slice y.X y.E.body.length y.d) (.int .i64 y.E.asked) (.int .i64 y.E.got))∧Blk (nine u (w.heap.size+1) (.string y.E.k) (.string y.E.v) (.int .i64 y.E.s) (.string y.E.r) (.int .i64 y.E.m) (.slice y.A y.E.fs.length y.c) (.slice y.X y.E.body.length y.d) (.int .i64 y.E.asked) (.int .i64 y.E.got)) w.heap.size #[.string ⟨#[]⟩,.string ⟨#[]⟩,.int .i64 0,.string ⟨#[]⟩,.int .i64 0,.slice none 0 0,.slice none 0 0,.int .i64 0,.int .i64 0] 41∧Blk (nine u (w.heap.size+1) (.string y.E.k) (.string y.E.v) (.int .i64 y.E.s) (.string y.E.r) (.int .i64 y.E.m) (.slice y.A y.E.fs.length y.c) (.slice y.X y.E.body.length y.d) (.int .i64 y.E.asked) (.int .i64 y.E.got)) (w.heap.size+1) #[.string y.E.k,.string y.E.v,.int .i64 y.E.s,.string y.E.r,.int .i64 y.E.m,.slice y.A y.E.fs.length y.c,.slice y.X y.E.body.length y.d,.int .i64 y.E.asked,.int .i64 y.E.got] 41∧Row (nine u (w.heap.size+1) (.string y.E.k) (.string y.E.v) (.int .i64 y.E.s) (.string y.E.r) (.int .i64 y.E.m) (.slice y.A y.E.fs.length y.c) (.slice y.X y.E.body.length y.d) (.int .i64 y.E.asked) (.int .i64 y.E.got)) bs 9 1 (some ⟨b,o,none⟩) n c2 (aF ids)):=aH (fun u hu e=>⟨⟨(HYO.out.below hu).nine_far (HK8B.out.below hu).tag (.string y.E.k) (.string y.E.v) (.int .i64 y.E.s) (.string y.E.r) (.int .i64 y.E.m) (.slice y.A y.E.fs.length y.c) (.slice y.X y.E.body.length y.d) (.int .i64 y.E.asked) (.int .i64 y.E.got),HYF.out,.inr ⟨by rw[HPK.out,HYES.out e],HXP.out,HEE.out,HXS.out⟩⟩,aN (aA HBE6.out.size HBE6.out hu) (by omega) (.string y.E.k) (.string y.E.v) (.int .i64 y.E.s) (.string y.E.r) (.int .i64 y.E.m) (.slice y.A y.E.fs.length y.c) (.slice y.X y.E.body.length y.d) (.int .i64 y.E.asked) (.int .i64 y.E.got),(HK6B.out.below hu).nine_far (by omega) (.string y.E.k) (.string y.E.v) (.int .i64 y.E.s) (.string y.E.r) (.int .i64 y.E.m) (.slice y.A y.E.fs.length y.c) (.slice y.X y.E.body.length y.d) (.int .i64 y.E.asked) (.int .i64 y.E.got),(HK8B.out.below hu).set9 (.string y.E.k) (.string y.E.v) (.int .i64 y.E.s) (.string y.E.r) (.int .i64 y.E.m) (.slice y.A y.E.fs.length y.c) (.slice y.X y.E.body.length y.d) (.int .i64 y.E.asked) (.int .i64 y.E.got),(dQ (F:=fun k=>k=w.heap.size+1) rfl (.string y.E.k) (.string y.E.v) (.int .i64 y.E.s) (.string y.E.r) (.int .i64 y.E.m) (.slice y.A y.E.fs.length y.c) (.slice y.X y.E.body.length y.d) (.int .i64 y.E.asked) (.int .i64 y.E.got)).row (HROW6.out.below hu) (fun k hk e=>by have h1:=(HROW6.out.lt k hk).1;have h2:=HBS.out;omega)⟩)
      unfold nine at HWIN
      go_wp2_with fail
      refine HMT.out.mono ?_
      rintro e w7 ⟨rfl,hb7⟩
      obtain⟨v0,v1,v2,v3,v4,v5,v6,v7,v8⟩:=(HK12.out.below hb7).cells9
      obtain⟨x0,x1,x2,x3,x4,x5,x6,x7,x8⟩:=(HK8B.out.below hb7).cells9
      obtain⟨r0,r1,r2,r3,r4,r5,r6,r7,r8⟩:=(HK8B.out.below hb7).free9
      have HE0:=aH (HEND.out w7 hb7)
      have HE1:=aH (HWIN.out w7 hb7)
      clear hb7 HMT HEND HWIN
      rcases HQ6.out.2.2 with ⟨hn0,rfl⟩ | ⟨hn1,hfs,_,_⟩
      ·have HE2:=aH (HE1.out (by rw[HBU.out,hn0]))
       clear hn0 HE0 HE1
       go_wp2
       go_roundw
       case rel=>exact⟨k+1,id,y,by omega,rfl,by go_num,HE2.out⟩
       case measure=>simp [intOf];omega
      ·obtain⟨s1,s2⟩:=aIT hfs
       rw[hn1]at HBU
       clear hn1 hfs
       by_cases hge:q.E.got≤y.E.got
       ·have HE2:=aH (HE1.out (by rw[HBU.out];exact decide_eq_true hge))
        clear HE0 HE1
        go_wp2
        go_roundw
        case rel=>exact⟨k+1,id,y,by omega,rfl,by go_num,HE2.out⟩
        case measure=>simp [intOf];omega
       ·have HE2:=aH (HE0.out (by rw[HBU.out];exact decide_eq_false hge))
        have hge2:y.E.got < q.E.got:=by omega
        clear HE0 HE1
        go_wp2
        go_roundw
        case rel=>exact⟨k+1,found,q,by omega,rfl,by go_num,HE2.out⟩
        case measure=>simp [intOf];omega
  have hpk:C.pick a key ask (ids.take k)=C.pick a key ask ids:=by rw[List.take_of_length_le (by rw[HN.out];omega)]
  have HQ2:=HQ.out
  rw[hpk]at HQ2
  have HQ3:=aH HQ2
  clear HQ2 hpk HQ
  rcases HQ3.out.2.2 with ⟨hn0,rfl⟩ | ⟨hn1,hfs,hen,hfz⟩
  ·have HN0:=aH hn0
   obtain⟨x0,x1,x2,x3,x4,x5,x6,x7,x8⟩:=HK6.out.cells9
   obtain⟨r0,r1,r2,r3,r4,r5,r6,r7,r8⟩:=HK6.out.free9
   obtain⟨v0,v1,v2,v3,v4,v5,v6,v7,v8⟩:=(HK6.out.set9 (.string ⟨#[]⟩) (.string ⟨#[]⟩) (.int .i64 0) (.string ⟨#[]⟩) (.int .i64 0) (.slice none 0 0) (.slice none 0 0) (.int .i64 0) (.int .i64 0)).cells9
   have HB9:=aH (aN HBE.out (zA _) (.string ⟨#[]⟩) (.string ⟨#[]⟩) (.int .i64 0) (.string ⟨#[]⟩) (.int .i64 0) (.slice none 0 0) (.slice none 0 0) (.int .i64 0) (.int .i64 0))
   unfold nine at HB9 v0 v1 v2 v3 v4 v5 v6 v7 v8
   clear hn0
   go_wp2
   refine bK (v:=.tuple #[.agg #[.string ⟨#[]⟩,.string ⟨#[]⟩,.int .i64 0,.string ⟨#[]⟩,.int .i64 0,.slice none 0 0,.slice none 0 0,.int .i64 0,.int .i64 0],.bool false]) (by simp [results,Tryz.results13,go_sem,v0,v1,v2,v3,v4,v5,v6,v7,v8]) rfl ?_
   rw[HN0.out]
   exact⟨rfl,HB9.out⟩
  ·obtain⟨s1,s2⟩:=aIT hfs
   have HN1:=aH hn1
   have HE1:=aH hen
   have HGD:=aH (HG.out found q.E hen)
   have hCo:=H.out.below HBE.out
   have HCO:=aH hCo
   obtain⟨y0,y1,y2⟩:=hCo.cells
   have HGT:=aH (aJL B Z.t Z.m room a.l found wo hCo.mem hfz)
   have HFZ:=aH hfz
   clear hn1 hen hCo hfz hfs
   go_wp2_with fail
   clear y0 y1 y2
   refine HGT.out.mono ?_
   rintro e w4 ⟨l1,rfl,hl1,hw1,hsm⟩
   have hmem:∀ x∈l1,x∈a.l:=fun x hx=>iE hl1.one (fun z=>.inr (hsm z)) hx
   obtain⟨c4,gc⟩:=HCO.out.turned hl1 hw1 (fun x hx=>.inl (hmem x hx))
   have hq4:=kS HQ3.out.1 hw1 (fun k hk=>HCO.out.mem.tag hk)
   have hk6:=hw1.blk HK6.out (HCO.out.mem.off HK6.out.tag (by decide) (by decide))
   have hk8:=hw1.blk HK8.out (HCO.out.mem.off HK8.out.tag (by decide) (by decide))
   have HSM:=aH hsm
   have hqf:∀ k,ownB q.A q.c=some k∨ownB q.X q.d=some k→¬ Z.foot { a with l:=l1 } k:=fun k hk hf=>by
    rcases hf with (hf | hf | ⟨x,hx,hf⟩) | hf
    ·exact HQ3.out.2.1 k hk (.inl (.inl hf))
    ·exact HQ3.out.2.1 k hk (.inl (.inr (.inl hf)))
    ·exact HQ3.out.2.1 k hk (.inl (.inr (.inr ⟨x,hmem x hx,hf⟩)))
    ·exact HQ3.out.2.1 k hk (.inr hf)
   have HQF:=aH hqf
   obtain⟨y,hy⟩:∃ y:EP,itV (Lr.peek a.l found)=y.v:=by
    cases Lr.peek a.l found with
    | none=>exact⟨EP.nil,rfl⟩
    | some x=>exact⟨x.p,rfl⟩
   rw[hy]
   obtain⟨w5,hw5⟩:∃ w5,w4.alloc (.cells #[.string ⟨#[]⟩,.string ⟨#[]⟩,.int .i64 0,.string ⟨#[]⟩,.int .i64 0,.slice none 0 0,.slice none 0 0,.int .i64 0,.int .i64 0] 41)=w5:=⟨_,rfl⟩
   have hb5:Below w4.heap.size w4 w5:=by rw[← hw5];exact (zB _ _).alloc (zA _) _
   have hk5:Blk w5 w4.heap.size #[.string ⟨#[]⟩,.string ⟨#[]⟩,.int .i64 0,.string ⟨#[]⟩,.int .i64 0,.slice none 0 0,.slice none 0 0,.int .i64 0,.int .i64 0] 41:=by rw[← hw5];exact Blk.new w4 _ _
   obtain⟨z0,z1,z2,z3,z4,z5,z6,z7,z8⟩:=hk5.cells9
   obtain⟨g0,g1,g2,g3,g4,g5,g6,g7,g8⟩:=hk5.free9
   have HB45:=aH (aN hb5 (zA _) (.string y.E.k) (.string y.E.v) (.int .i64 y.E.s) (.string y.E.r) (.int .i64 y.E.m) (.slice y.A y.E.fs.length y.c) (.slice y.X y.E.body.length y.d) (.int .i64 y.E.asked) (.int .i64 y.E.got))
   have HWG:=aH ((aO.below HBE.out (Z.foot a)).trans gc)
   have HQ4:=aH hq4
   have HC4:=aH c4
   have HK64:=aH hk6
   have HK84:=aH hk8
   unfold nine at HB45
   unfold EP.v lW
   obtain⟨ok,hok⟩:∃ ok,(Lr.peek a.l found).isSome=ok:=⟨_,rfl⟩
   rw[hok]
   have HOK:=aH hok
   clear hl1 hw1 hsm hmem c4 gc hq4 hk6 hk8 hqf hy hb5 hk5 hok HGT HK6 HK8 HCO
   go_upto_region 13 with fail
   obtain⟨w6,hw6⟩:∃ w6,(((((((((w5.setCell ⟨w4.heap.size,0,none⟩ (.string y.E.k)).setCell ⟨w4.heap.size,1,none⟩ (.string y.E.v)).setCell ⟨w4.heap.size,2,none⟩ (.int .i64 y.E.s)).setCell ⟨w4.heap.size,3,none⟩ (.string y.E.r)).setCell ⟨w4.heap.size,4,none⟩ (.int .i64 y.E.m)).setCell ⟨w4.heap.size,5,none⟩ (.slice y.A y.E.fs.length y.c)).setCell ⟨w4.heap.size,6,none⟩ (.slice y.X y.E.body.length y.d)).setCell ⟨w4.heap.size,7,none⟩ (.int .i64 y.E.asked)).setCell ⟨w4.heap.size,8,none⟩ (.int .i64 y.E.got))=w6:=⟨_,rfl⟩
   rw[hw6]at HB45 ⊢
   have HQ6:=aH (HQ4.out.below HB45.out)
   have HC6:=aH (HC4.out.below HB45.out)
   have HK66:=aH (HK64.out.below HB45.out)
   have HK86:=aH (HK84.out.below HB45.out)
   have HW6:=aH (HWG.out.trans (aO.below HB45.out _))
   have HB6:Hid (Below B w w6):=aH (dR HW6.out (fun k hk=>H.out.under hk) hB)
   have HZ6:Hid (w.heap.size≤w6.heap.size):=aH HW6.out.size
   clear hw5 hw6 z0 z1 z2 z3 z4 z5 z6 z7 z8 g0 g1 g2 g3 g4 g5 g6 g7 g8 HB45 HQ4 HC4 HK64 HK84 HWG
   -- the copy that is answered
   have HFIN:Hid (∀ (u:World) (l':List It),CAt B room Z { a with l:=l' } u→aO (Z.foot a) w (Z.foot { a with l:=l' }) u→pV w a.l l' found q.E→gZ u B q→Calls Tryz.prog 38 #[q.v] u (fun e u'=>∃ p:EP,e=.returned p.v∧p.E=q.E∧gZ u' w.heap.size p∧Below u.heap.size u u'∧CAt B room Z { a with l:=l' } u'∧aO (Z.foot a) w (Z.foot { a with l:=l' }) u'∧pV w a.l l' found q.E∧∀ k,ownB p.A p.c=some k∨ownB p.X p.d=some k→¬ Z.foot { a with l:=l' } k)):=aH (fun u l' h1 h2 h3 h4=>(yH q B u h4 HGD.out.fits.n HGD.out.body).mono (by
    rintro e u' ⟨p,rfl,hp,hpo,hpb⟩
    refine⟨p,rfl,hp,hpo.mono h2.size,hpb,h1.below hpb,h2.trans (aO.below hpb _),h3,fun k hk hf=>?_⟩
    have h5:=h1.lt hf
    rcases hk with hk | hk
    ·have:=(hpo.1.lt k hk).1;omega
    ·have:=(hpo.2.lt k hk).1;omega))
   unfold EP.v lW at HFIN
   cases ok with
   | true =>
    obtain⟨x,hx⟩:=Option.isSome_iff_exists.1 HOK.out
    have hxE:x.p.E=q.E:=by
     have h1:=HE1.out
     unfold C.entry at h1
     rw[hx]at h1
     exact Option.some.inj h1
    have HCP:=aH (HFIN.out w6 l1 HC6.out HW6.out ⟨fun z=>by
     by_cases hz:z=found
     ·exact .inr (.inr ⟨hz,x,by rw[HSM.out z,hz,hx],hxE⟩)
     ·exact .inr (.inl ⟨hz,HSM.out z⟩),fun x hx=>.inl (iE HC6.out.mem.one (fun z=>.inr (HSM.out z)) hx)⟩ HQ6.out)
    obtain⟨x0,x1,x2,x3,x4,x5,x6,x7,x8⟩:=HK86.out.cells9
    clear hx hxE HFIN
    go_wp2_with fail
    refine HCP.out.mono ?_
    clear x0 x1 x2 x3 x4 x5 x6 x7 x8
    rintro e w8 ⟨p,rfl,hpE,hpO,hpb,hcA,hwA,hla,hpf⟩
    have hk8:=HK66.out.below hpb
    obtain⟨x0,x1,x2,x3,x4,x5,x6,x7,x8⟩:=hk8.cells9
    obtain⟨r0,r1,r2,r3,r4,r5,r6,r7,r8⟩:=hk8.free9
    obtain⟨v0,v1,v2,v3,v4,v5,v6,v7,v8⟩:=(hk8.set9 (.string p.E.k) (.string p.E.v) (.int .i64 p.E.s) (.string p.E.r) (.int .i64 p.E.m) (.slice p.A p.E.fs.length p.c) (.slice p.X p.E.body.length p.d) (.int .i64 p.E.asked) (.int .i64 p.E.got)).cells9
    have HCA:=aH (hcA.entry9 hk8 (.string p.E.k) (.string p.E.v) (.int .i64 p.E.s) (.string p.E.r) (.int .i64 p.E.m) (.slice p.A p.E.fs.length p.c) (.slice p.X p.E.body.length p.d) (.int .i64 p.E.asked) (.int .i64 p.E.got))
    have HWA:=aH (jB hwA (zA _) (.string p.E.k) (.string p.E.v) (.int .i64 p.E.s) (.string p.E.r) (.int .i64 p.E.m) (.slice p.A p.E.fs.length p.c) (.slice p.X p.E.body.length p.d) (.int .i64 p.E.asked) (.int .i64 p.E.got))
    have HPO:=aH (hpO.nine_far hk8.tag (.string p.E.k) (.string p.E.v) (.int .i64 p.E.s) (.string p.E.r) (.int .i64 p.E.m) (.slice p.A p.E.fs.length p.c) (.slice p.X p.E.body.length p.d) (.int .i64 p.E.asked) (.int .i64 p.E.got))
    have HPE:=aH hpE
    have HLA:=aH hla
    have HPF:=aH hpf
    unfold nine at HCA HWA HPO v0 v1 v2 v3 v4 v5 v6 v7 v8
    clear hpE hpO hpb hcA hwA hla hpf hk8 HCP
    go_wp2
    refine bK (v:=.tuple #[.agg #[.string p.E.k,.string p.E.v,.int .i64 p.E.s,.string p.E.r,.int .i64 p.E.m,.slice p.A p.E.fs.length p.c,.slice p.X p.E.body.length p.d,.int .i64 p.E.asked,.int .i64 p.E.got],.bool true]) (by simp [results,Tryz.results13,go_sem,v0,v1,v2,v3,v4,v5,v6,v7,v8]) rfl ?_
    rw[HN1.out]
    exact⟨p,_,rfl,HPE.out,HPO.out,HPF.out,HCA.out,HWA.out,HLA.out⟩
   | false =>
    have hpn:Lr.peek a.l found=none:=Option.not_isSome_iff_eq_none.1 (by rw[HOK.out];decide)
    have HLY:=aH (aJR B room B Z { a with l:=l1 } found q w6 HC6.out HQ6.out HFZ.out HGD.out.r HGD.out.bulk ⟨HGD.out.fits.n,HGD.out.body⟩ (HT.out w6 HB6.out).2.2 (bD hB HZ6.out))
    unfold EP.v lW at HLY
    obtain⟨x0,x1,x2,x3,x4,x5,x6,x7,x8⟩:=HK86.out.cells9
    go_wp2_with fail
    clear x0 x1 x2 x3 x4 x5 x6 x7 x8
    refine HLY.out.mono ?_
    rintro e w7 (⟨hc,_⟩ | ⟨_,rfl,l',c7,g7,hl7⟩)
    ·exact absurd HGD.out.enc hc
    have HCP:=aH (HFIN.out w7 l' c7 (HW6.out.trans g7) ⟨fun z=>by
     rcases hl7.1 z with h1 | ⟨h1,h2⟩ | h1
     ·exact .inl h1
     ·exact .inr (.inl ⟨h1,h2.trans (HSM.out z)⟩)
     ·exact .inr (.inr h1),fun x hx=>(hl7.2 x hx).imp (fun h=>iE HC6.out.mem.one (fun z=>.inr (HSM.out z)) h) (fun h k hk=>bD HZ6.out (h k hk))⟩ ⟨g7.row HQ6.out.1 (fun k hk=>HQF.out k (.inl hk)),g7.row HQ6.out.2 (fun k hk=>HQF.out k (.inr hk))⟩)
    have hof:=HC6.out.off HK66.out.tag (by decide) (by decide) (by decide)
    have HK67:=aH (g7.blk HK66.out hof)
    have hof8:=HC6.out.off HK86.out.tag (by decide) (by decide) (by decide)
    have hk87:=g7.blk HK86.out hof8
    obtain⟨x0,x1,x2,x3,x4,x5,x6,x7,x8⟩:=hk87.cells9
    clear HK66 hof hof8 hk87 c7 g7 hl7 hpn HLY HFIN
    have HK66:=HK67
    clear HK67
    go_wp2_with fail
    refine HCP.out.mono ?_
    clear x0 x1 x2 x3 x4 x5 x6 x7 x8
    rintro e w8 ⟨p,rfl,hpE,hpO,hpb,hcA,hwA,hla,hpf⟩
    have hk8:=HK66.out.below hpb
    obtain⟨x0,x1,x2,x3,x4,x5,x6,x7,x8⟩:=hk8.cells9
    obtain⟨r0,r1,r2,r3,r4,r5,r6,r7,r8⟩:=hk8.free9
    obtain⟨v0,v1,v2,v3,v4,v5,v6,v7,v8⟩:=(hk8.set9 (.string p.E.k) (.string p.E.v) (.int .i64 p.E.s) (.string p.E.r) (.int .i64 p.E.m) (.slice p.A p.E.fs.length p.c) (.slice p.X p.E.body.length p.d) (.int .i64 p.E.asked) (.int .i64 p.E.got)).cells9
    have HCA:=aH (hcA.entry9 hk8 (.string p.E.k) (.string p.E.v) (.int .i64 p.E.s) (.string p.E.r) (.int .i64 p.E.m) (.slice p.A p.E.fs.length p.c) (.slice p.X p.E.body.length p.d) (.int .i64 p.E.asked) (.int .i64 p.E.got))
    have HWA:=aH (jB hwA (zA _) (.string p.E.k) (.string p.E.v) (.int .i64 p.E.s) (.string p.E.r) (.int .i64 p.E.m) (.slice p.A p.E.fs.length p.c) (.slice p.X p.E.body.length p.d) (.int .i64 p.E.asked) (.int .i64 p.E.got))
    have HPO:=aH (hpO.nine_far hk8.tag (.string p.E.k) (.string p.E.v) (.int .i64 p.E.s) (.string p.E.r) (.int .i64 p.E.m) (.slice p.A p.E.fs.length p.c) (.slice p.X p.E.body.length p.d) (.int .i64 p.E.asked) (.int .i64 p.E.got))
    have HPE:=aH hpE
    have HLA:=aH hla
    have HPF:=aH hpf
    unfold nine at HCA HWA HPO v0 v1 v2 v3 v4 v5 v6 v7 v8
    clear hpE hpO hpb hcA hwA hla hpf hk8 HCP
    go_wp2
    refine bK (v:=.tuple #[.agg #[.string p.E.k,.string p.E.v,.int .i64 p.E.s,.string p.E.r,.int .i64 p.E.m,.slice p.A p.E.fs.length p.c,.slice p.X p.E.body.length p.d,.int .i64 p.E.asked,.int .i64 p.E.got],.bool true]) (by simp [results,Tryz.results13,go_sem,v0,v1,v2,v3,v4,v5,v6,v7,v8]) rfl ?_
    rw[HN1.out]
    exact⟨p,_,rfl,HPE.out,HPO.out,HPF.out,HCA.out,HWA.out,HLA.out⟩
end Go.Proofs.YthjeglnkgdpijaaGreatDoor
