/- The walk of cache's Purge (printed by gen/cachei.py). -/
import Derived.Test.YthjeglnkgdpijaaGreatDoorZ08
set_option maxHeartbeats 8000000
set_option maxRecDepth 100000
namespace Go.Proofs.YthjeglnkgdpijaaGreatDoor
open Go Go.RowKit Go.Maps
namespace C
structure Vw where
 s:Option S.Sto
 mem:ByteArray→Option O.Ent
 hd:D.NM
def abs (a:CSt):Vw:=⟨a.s,fun x=>(Lr.peek a.l x).map (·.p.E),a.hd⟩
def Vw.entry (v:Vw) (id:ByteArray):Option O.Ent:=match v.mem id with
 | some E=>some E
 | none=>match v.s with
  | some s=>s.get id
  | none=>none
def Vw.stored (v:Vw) (id:ByteArray):Bool:=match v.s with
 | some s=>V.has s.ids id
 | none=>false
def Vw.hide (v:Vw) (id:ByteArray):Vw:={ v with hd:=if v.stored id=true then D.put v.hd id 0 else D.del v.hd id }
def Vw.less (v:Vw) (id:ByteArray):Vw:={ v with mem:=fun x=>if x=id then none else v.mem x }
def Vw.apart (v:Vw) (key id:ByteArray):Bool:=match v.entry id with
 | some E=>decide (E.k≠key)
 | none=>false
def Vw.purge1 (key:ByteArray) (x:Vw × Nat × Int) (id:ByteArray):Vw × Nat × Int :=
 if x.1.apart key id=true then x else match x.1.s with
  | none=>(x.1.less id,x.2.1+1,x.2.2)
  | some s=>if V.has s.ids id=true then (({ x.1.less id with s:=some (s.drop id).1 }:Vw).hide id,x.2.1+1,if x.2.2=0 then (s.drop id).2 else x.2.2) else (x.1.less id,x.2.1+1,x.2.2)
def Vw.purge (v:Vw) (key:ByteArray) (l:List ByteArray):Vw × Nat × Int:=l.foldl (Vw.purge1 key) (v,0,0)
theorem aGT (v:Vw) (key:ByteArray) (l:List ByteArray) (k:Nat) (h:k < l.length):v.purge key (l.take (k+1))=Vw.purge1 key (v.purge key (l.take k)) l[k]:=by
 unfold Vw.purge
 rw[bI h,List.foldl_append]
 rfl
theorem aCT (a:CSt) (id:ByteArray):(abs a).entry id=entry a id:=by
 unfold Vw.entry abs entry
 dsimp only
 cases Lr.peek a.l id with
 | some x=>rfl
 | none=>rfl
end C
def aN9 (B room:Nat) (Z:CM) (a:CSt) (r:C.Vw × Nat × Int) (w:World) (e:Ending) (w':World):Prop :=
 ∃ X a',e=.returned (.tuple #[.int .i64 r.2.1,.int .i64 r.2.2])∧CAt B room { Z with X:=X } a' w'∧aO (Z.foot a) w (CM.foot { Z with X:=X } a') w'∧C.abs a'=r.1∧∀ x∈a'.l,x∈a.l
structure aCU (B room:Nat) (Z:CM) (a:CSt) (r:C.Vw × Nat × Int) (w:World) (X:SM) (ak:CSt) (u:World):Prop where
 at_:CAt B room { Z with X:=X } ak u
 went:aO (Z.foot a) w (CM.foot { Z with X:=X } ak) u
 abs:C.abs ak=r.1
 sub:∀ x∈ak.l,x∈a.l
section
variable {B room:Nat} {Z:CM} {a ak:CSt} {r:C.Vw × Nat × Int} {w u u':World} {X:SM}
theorem aCU.below (h:aCU B room Z a r w X ak u) (hb:Below u.heap.size u u'):aCU B room Z a r w X ak u':=⟨h.at_.below hb,h.went.trans (aO.below hb _),h.abs,h.sub⟩
theorem aCU.row {base n c:Nat} {A:Option Addr} {xs:List Value} {F':Nat→Prop} (h:aCU B room Z a r w X ak u) (hr:Row u base 9 1 A n c xs) (hw:aO (CM.foot { Z with X:=X } ak) u F' u'):Row u' base 9 1 A n c xs :=
 hw.row hr (fun _ hk=>h.at_.off (hr.tag hk) ⟨by decide,by decide,by decide,by decide⟩ ⟨by decide,by decide,by decide⟩ ⟨by decide,by decide⟩)
end
theorem aBK (B room m:Nat) (Z:CM) (a:CSt) (key:ByteArray) (w:World) (h:CAt B room Z a w) (hm:m≤134000000) (hk:key.size≤268435456)
  (hf:∀ k,k≤(C.aV (C.all a) key).length→((C.abs a).purge key ((C.aV (C.all a) key).take k)).1.hd.length≤1073741824∧∀ s,((C.abs a).purge key ((C.aV (C.all a) key).take k)).1.s=some s→C.Fine m s) (hT:∀ u,Below B w u→Tabs u) (hB:B≤w.heap.size) :
  Calls Tryz.prog 10 #[.pointer (some ⟨Z.c,0,none⟩),.string key] w (aN9 B room Z a ((C.abs a).purge key (C.aV (C.all a) key)) w):=by
 have hf0:∀ s,a.s=some s→C.Fine m s:=(hf 0 (zF _)).2
 have HA:=aH (aK1 B room Z a m w h hf0)
 have hlen:=C.all_len h hf0
 have HBG:=aH (fun A c u (hr:Row u w.heap.size 9 1 A (C.all a).length c (aF (C.all a))) (hb:Below w.heap.size w u)=>qM w.heap.size A (C.all a).length c (C.all a) key u hlen hr (by omega) hb.size)
 have HSI:=aH (fun x (hx:x∈C.aV (C.all a) key)=>C.vP hf0 (fun x hx=>(h.mem.small x hx).1) x (List.mem_filter.1 hx).1)
 have HLI:Hid ((C.aV (C.all a) key).length≤1099511627776):=aH (bD (List.length_filter_le _ _) hlen)
 have HF:=aH hf
 have H:=aH h
 have HT:=aH hT
 obtain⟨ids,hids⟩:∃ ids,C.aV (C.all a) key=ids:=⟨_,rfl⟩
 obtain⟨l0,hl0⟩:∃ l0,C.all a=l0:=⟨_,rfl⟩
 rw[hids]at HBG HSI HLI HF ⊢
 rw[hl0]at HA HBG
 clear hids hl0 hf0 hlen h hf hT
 go_enter Tryz.func10,Tryz.ntmps10
 go_wp2_with fail
 refine HA.out.mono ?_
 rintro e w2 ⟨A2,c2,rfl,hr2,hb2⟩
 have HBG2:=aH (HBG.out A2 c2 w2 hr2 hb2)
 have HOW:=aH (fun k hk=>(hr2.lt k hk).1)
 have HB2:=aH hb2
 clear hr2 hb2 HA HBG
 go_wp2_with fail
 refine HBG2.out.mono ?_
 rintro e w3 ⟨A3,rfl,hr3,hg3⟩
 have HB3:=aH (HB2.out.grown hg3 HB2.out.size HOW.out)
 have HR3:=aH hr3
 obtain⟨bs,hbs⟩:∃ bs,w.heap.size=bs:=⟨_,rfl⟩
 rw[hbs]at HR3
 obtain⟨n,hn⟩:∃ n,ids.length=n:=⟨_,rfl⟩
 have HN:=aH hn
 rw[hn]at HR3 HLI HF ⊢
 clear hbs hn hr3 hg3 HBG2 HOW HB2
 have hn2:=HLI.out
 have hp0:aCU B room Z a ((C.abs a).purge key (ids.take 0)) w Z.X a w3:=⟨H.out.below HB3.out,aO.below HB3.out _,rfl,fun _ h=>h⟩
 go_wp2
 go_loopw [6,7,9,10,11,12,18] (fun cn fi _ _ _ _ i wr=>∃ (k:Nat) (X:SM) (ak:CSt),k≤n∧cn=.int .i64 ((C.abs a).purge key (ids.take k)).2.1∧fi=.int .i64 ((C.abs a).purge key (ids.take k)).2.2∧i=.int .i64 k∧((C.abs a).purge key (ids.take k)).2.1≤k∧aCU B room Z a ((C.abs a).purge key (ids.take k)) w X ak wr∧Row wr bs 9 1 A3 n c2 (aF ids)) (fun _ _ _ _ _ _ i _=>n - (intOf i).toNat)
 case atStart=>exact⟨0,Z.X,a,zF _,rfl,rfl,rfl,zA _,hp0,HR3.out⟩
 case round =>
  obtain⟨k,X,ak,hkn,rfl,rfl,rfl,hle,hpa,hrow⟩:=hrel
  have HPA:=aH hpa
  have HROW:=aH hrow
  have HFK:=aH (HF.out k hkn)
  clear hpa hrow hp0 HB3 HR3
  obtain⟨wo,rfl⟩:∃ wo:World,wo=wr:=⟨_,rfl⟩
  by_cases hlt:k < n
  ·have hki:k < ids.length:=by rw[HN.out];exact hlt
   obtain⟨b,o,rfl,hb,cx⟩:=HROW.out.rd.str hlt HN.out
   have hpk:=C.aGT (C.abs a) key ids k hki
   have hxs:=HSI.out _ (List.getElem_mem hki)
   have hfk2:=HF.out (k+1) hlt
   obtain⟨id,hid⟩:∃ id,ids[k]'hki=id:=⟨_,rfl⟩
   rw[hid]at cx hpk hxs
   rw[hpk]at hfk2
   obtain⟨r,hr⟩:∃ r,(C.abs a).purge key (ids.take k)=r:=⟨_,rfl⟩
   rw[hr]at hpk hfk2 HPA HFK hle ⊢
   have HPK:=aH hpk
   have HXS:=aH hxs
   have HFN:=aH hfk2
   have HRK:=aH hr
   obtain⟨v,cnt,fst⟩:=r
   dsimp only at HPK HFN HPA HFK hle ⊢
   have hcb:cnt≤1099511627776:=by omega
   have HAV:Hid (C.abs ak=v):=aH HPA.out.abs
   have hfine:∀ s,ak.s=some s→C.Fine m s:=fun s hs=>HFK.out.2 s (by rw[← HAV.out];exact hs)
   have HFI:=aH hfine
   have hbo:Below B w wo:=dR HPA.out.went (fun k hk=>H.out.under hk) hB
   have HEN:=aH (aCB B room { Z with X:=X } ak id m wo HPA.out.at_ (bD hxs (by decide)) (fun s hs=>⟨(hfine s hs).fit,fun p hp=>Nat.lt_of_lt_of_le ((hfine s hs).no p hp) (hfine s hs).used⟩) (by omega) (HT.out wo hbo) (bD hB HPA.out.went.size))
   clear hxs hb hr hpk hfk2 hfine hbo hid hki
   go_wp2_with fail
   clear cx
   refine HEN.out.mono ?_
   rintro e w4 ⟨y,rfl,hyE,hyO,hb4,hyF⟩
   obtain⟨w5,hw5⟩:∃ w5,w4.alloc (.cells #[.string ⟨#[]⟩,.string ⟨#[]⟩,.int .i64 0,.string ⟨#[]⟩,.int .i64 0,.slice none 0 0,.slice none 0 0,.int .i64 0,.int .i64 0] 41)=w5:=⟨_,rfl⟩
   have hb5:Below w4.heap.size w4 w5:=by rw[← hw5];exact (zB _ _).alloc (zA _) _
   have hk5:Blk w5 w4.heap.size #[.string ⟨#[]⟩,.string ⟨#[]⟩,.int .i64 0,.string ⟨#[]⟩,.int .i64 0,.slice none 0 0,.slice none 0 0,.int .i64 0,.int .i64 0] 41:=by rw[← hw5];exact Blk.new w4 _ _
   obtain⟨z0,z1,z2,z3,z4,z5,z6,z7,z8⟩:=hk5.cells9
   obtain⟨g0,g1,g2,g3,g4,g5,g6,g7,g8⟩:=hk5.free9
   have HK12:=aH (hk5.set9 (.string y.E.k) (.string y.E.v) (.int .i64 y.E.s) (.string y.E.r) (.int .i64 y.E.m) (.slice y.A y.E.fs.length y.c) (.slice y.X y.E.body.length y.d) (.int .i64 y.E.asked) (.int .i64 y.E.got))
   have HB45:=aH (aN hb5 (zA _) (.string y.E.k) (.string y.E.v) (.int .i64 y.E.s) (.string y.E.r) (.int .i64 y.E.m) (.slice y.A y.E.fs.length y.c) (.slice y.X y.E.body.length y.d) (.int .i64 y.E.asked) (.int .i64 y.E.got))
   have HYE:=aH hyE
   have HB4:=aH hb4
   unfold nine at HK12 HB45
   obtain⟨ok,hok⟩:∃ ok,(C.entry ak id).isSome=ok:=⟨_,rfl⟩
   rw[hok]
   have HOK:=aH hok
   unfold EP.v lW
   clear hk5 hyE hyO hyF hb4 hb5 hok HEN
   go_upto_region 6 with fail
   obtain⟨w6,hw6⟩:∃ w6,(((((((((w5.setCell ⟨w4.heap.size,0,none⟩ (.string y.E.k)).setCell ⟨w4.heap.size,1,none⟩ (.string y.E.v)).setCell ⟨w4.heap.size,2,none⟩ (.int .i64 y.E.s)).setCell ⟨w4.heap.size,3,none⟩ (.string y.E.r)).setCell ⟨w4.heap.size,4,none⟩ (.int .i64 y.E.m)).setCell ⟨w4.heap.size,5,none⟩ (.slice y.A y.E.fs.length y.c)).setCell ⟨w4.heap.size,6,none⟩ (.slice y.X y.E.body.length y.d)).setCell ⟨w4.heap.size,7,none⟩ (.int .i64 y.E.asked)).setCell ⟨w4.heap.size,8,none⟩ (.int .i64 y.E.got))=w6:=⟨_,rfl⟩
   rw[hw6]at HK12 HB45 ⊢
   have HB6:=aH (aA HB4.out.size HB4.out HB45.out)
   have HPA6:=aH (HPA.out.below HB6.out)
   have HROW6:=aH (HROW.out.below HB6.out)
   obtain⟨v0,v1,v2,v3,v4,v5,v6,v7,v8⟩:=HK12.out.cells9
   clear hw5 hw6 z0 z1 z2 z3 z4 z5 z6 z7 z8 g0 g1 g2 g3 g4 g5 g6 g7 g8 HB4 HB45 HB6 HPA HROW
   generalize w4.heap.size=b12 at *
   -- behind the test
   have HAP:Hid (v.apart key id=(ok&&decide (y.E.k≠key))):=aH (by
    have h1:v.entry id=C.entry ak id:=by rw[← C.aCT,HPA6.out.abs]
    unfold C.Vw.apart
    rw[h1,← HOK.out,HYE.out]
    cases C.entry ak id with
    | none=>rfl
    | some E=>rfl)
   cases hskip:v.apart key id with
   | true =>
    have hs2:=HAP.out
    rw[hskip]at hs2
    obtain⟨h1,h2⟩:=Bool.and_eq_true_iff.1 hs2.symm
    subst h1
    have hk1:(y.E.k.toList==key.toList)=false:=by rw[bM];exact decide_eq_false (of_decide_eq_true h2)
    have HNX:Hid ((C.abs a).purge key (ids.take (k+1))=(v,cnt,fst)):=aH (by rw[HPK.out];unfold C.Vw.purge1;rw[if_pos hskip])
    clear hskip hs2 h2
    go_wp2
    go_roundw
    case rel=>exact⟨k+1,X,ak,by omega,by rw[HNX.out],by rw[HNX.out],by go_num,by rw[HNX.out];show cnt≤_;omega,by rw[HNX.out];exact HPA6.out,HROW6.out⟩
    case measure=>simp [intOf];omega
   | false =>
    have hs2:=HAP.out
    rw[hskip]at hs2
    have HSK:=aH hskip
    have HDR:=aH (oO B Z.t Z.m room ak.l id w6 HPA6.out.at_.mem (bD HXS.out (by decide)))
    obtain⟨y0,y1,y2⟩:=HPA6.out.at_.cells
    dsimp only at y0 y1 y2
    clear hskip
    -- behind the Drop in memory
    have HGO:Hid (∀ u l',fU B Z.t Z.m room l' u→aO (LrF Z.t Z.m ak.l) w6 (LrF Z.t Z.m l') u→(∀ x,Lr.peek l' x=if x=id then none else Lr.peek ak.l x)→aCU B room Z a (v.less id,cnt,fst) w X { ak with l:=l' } u∧Row u bs 9 1 (some ⟨b,o,none⟩) n c2 (aF ids)):=aH (fun u l' h1 h2 h3=>by
     obtain⟨q1,q2⟩:=HPA6.out.at_.turned h1 h2 (fun x hx=>.inl (iE h1.one (fun z=>by
      rw[h3]
      by_cases hz:z=id
      ·rw[if_pos hz];exact .inl rfl
      ·rw[if_neg hz];exact .inr rfl) hx))
     refine⟨⟨q1,HPA6.out.went.trans q2,?_,fun x hx=>HPA6.out.sub x (iE h1.one (fun z=>by
      rw[h3]
      by_cases hz:z=id
      ·rw[if_pos hz];exact .inl rfl
      ·rw[if_neg hz];exact .inr rfl) hx)⟩,HPA6.out.row HROW6.out q2⟩
     show C.abs { ak with l:=l' }=v.less id
     have h4:=HPA6.out.abs
     dsimp only at h4
     rw[← h4]
     unfold C.abs C.Vw.less
     congr 1
     funext x
     rw[h3]
     by_cases hx:x=id
     ·rw[if_pos hx,if_pos hx];rfl
     ·rw[if_neg hx,if_neg hx])
    have hcase:ok=false∨(ok=true∧y.E.k=key):=by
     cases ok with
     | false=>exact .inl rfl
     | true=>exact .inr ⟨rfl,Decidable.not_not.1 (of_decide_eq_false hs2.symm)⟩
    clear hs2
    rcases hcase with rfl | ⟨rfl,hke⟩
    ·go_wp2_with fail
     refine HDR.out.mono ?_
     rintro e w7 ⟨l7,b7,rfl,h7,hw7,hp7⟩
     obtain⟨q1,q2⟩:=HGO.out w7 l7 h7 hw7 hp7
     have HP7:=aH q1
     have HR7:=aH q2
     have HST:=aH (oC B room { Z with X:=X } { ak with l:=l7 } id m w7 q1.at_ HFI.out)
     obtain⟨sd,hsd⟩:∃ sd,C.stored { ak with l:=l7 } id=sd:=⟨_,rfl⟩
     rw[hsd]at HST
     have HSDT:=aH hsd
     clear hsd
     clear h7 hw7 hp7 q1 q2 HDR HGO y0 y1 y2
     go_wp2_with fail
     refine HST.out.mono ?_
     rintro e w8 ⟨rfl,hb8⟩
     have HP8:=aH (HP7.out.below hb8)
     have HR8:=aH (HR7.out.below hb8)
     clear hb8 HST HP7 HR7
     cases hs:ak.s with
     | none =>
      have hst:C.stored { ak with l:=l7 } id=false:=by unfold C.stored;rw[show ({ ak with l:=l7 }:CSt).s=none from hs]
      have hvs:v.s=none:=by rw[← HAV.out];exact hs
      have HNX:Hid ((C.abs a).purge key (ids.take (k+1))=(v.less id,cnt+1,fst)):=aH (by rw[HPK.out];unfold C.Vw.purge1;rw[if_neg (by rw[HSK.out];decide)];dsimp only;rw[hvs])
      rw[HSDT.out]at hst
      subst hst
      clear hs hvs HSDT
      go_wp2
      go_roundw
      case rel=>exact⟨k+1,X,_,by omega,by rw[HNX.out];go_num,by rw[HNX.out],by go_num,by rw[HNX.out];show cnt+1≤_;omega,by rw[HNX.out];exact⟨HP8.out.at_,HP8.out.went,HP8.out.abs,HP8.out.sub⟩,HR8.out⟩
      case measure=>simp [intOf];omega
     | some s =>
      have hvs:v.s=some s:=by rw[← HAV.out];exact hs
      cases hst:V.has s.ids id with
      | false =>
       have hst2:C.stored { ak with l:=l7 } id=false:=by unfold C.stored;rw[show ({ ak with l:=l7 }:CSt).s=some s from hs];exact hst
       have HNX:Hid ((C.abs a).purge key (ids.take (k+1))=(v.less id,cnt+1,fst)):=aH (by rw[HPK.out];unfold C.Vw.purge1;rw[if_neg (by rw[HSK.out];decide)];dsimp only;rw[hvs];dsimp only;rw[if_neg (by rw[hst];decide)])
       rw[HSDT.out]at hst2
       subst hst2
       clear hs hst hvs HSDT
       go_wp2
       go_roundw
       case rel=>exact⟨k+1,X,_,by omega,by rw[HNX.out];go_num,by rw[HNX.out],by go_num,by rw[HNX.out];show cnt+1≤_;omega,by rw[HNX.out];exact⟨HP8.out.at_,HP8.out.went,HP8.out.abs,HP8.out.sub⟩,HR8.out⟩
       case measure=>simp [intOf];omega
      | true =>
       have hst2:C.stored { ak with l:=l7 } id=true:=by unfold C.stored;rw[show ({ ak with l:=l7 }:CSt).s=some s from hs];exact hst
       obtain⟨s2,code,hsd⟩:∃ s2 code,s.drop id=(s2,code):=⟨_,_,rfl⟩
       have HNX:Hid ((C.abs a).purge key (ids.take (k+1))=(({ v.less id with s:=some s2 }:C.Vw).hide id,cnt+1,if fst=0 then code else fst)):=aH (by rw[HPK.out];unfold C.Vw.purge1;rw[if_neg (by rw[HSK.out];decide)];dsimp only;rw[hvs];dsimp only;rw[if_pos hst,hsd])
       have HF2:Hid (C.Fine m s2):=aH (HFN.out.2 s2 (by rw[← HPK.out,HNX.out];rfl))
       have hfs:=HFI.out s hs
       have HSD:=aH (by
        have hq:=aBB B X s id m w8 (HP8.out.at_.sto s hs) hfs.fit hm hfs.up hfs.len hfs.sz hfs.cnt hfs.used hfs.no (by
         obtain⟨p,hp,e⟩:=List.mem_map.1 (V.has_iff.1 hst)
         rw[← e]
         exact hfs.sz p hp)
        rw[hsd]at hq
        exact hq)
       dsimp only at HSD
       obtain⟨y0,y1,y2⟩:=HP8.out.at_.cells
       dsimp only at y0 y1 y2
       rw[hs]at y0
       dsimp only[Option.map]at y0
       have HS:=aH hs
       have HHD:Hid (ak.hd.length≤1073741824):=aH (by
        have h1:=HFK.out.1
        rw[← HAV.out]at h1
        exact h1)
       rw[HSDT.out]at hst2
       subst hst2
       clear hs hst hvs hsd hfs HSDT
       go_wp2_with fail
       refine HSD.out.mono ?_
       rintro e w9 ⟨rfl,X9,hst9,hwt9,hxs9,_,_⟩
       obtain⟨q1,q2⟩:=HP8.out.at_.stored HS.out hst9 hwt9 hxs9
       have HC9:=aH q1
       have HW9:=aH (HP8.out.went.trans q2)
       have HR9:=aH (HP8.out.row HR8.out q2)
       have HH:=aH (zW B room { Z with X:=X9 } ⟨some s2,l7,ak.hd⟩ id true m w9 q1 (fun x hx=>by cases hx;exact HF2.out) (bD HXS.out (by decide)) HHD.out)
       have HAB:Hid (C.abs (C.hide ⟨some s2,l7,ak.hd⟩ id true)=({ v.less id with s:=some s2 }:C.Vw).hide id):=aH (by
        have h1:=HP8.out.abs
        dsimp only at h1
        rw[← h1]
        unfold C.abs C.hide C.Vw.hide C.stored C.Vw.stored
        dsimp only
        rw[Bool.true_and])
       clear hst9 hwt9 hxs9 q1 q2 HSD y0 y1 y2
       by_cases hf0:fst=0
       ·have hfi:(fst:Int)=0:=hf0
        subst hf0
        go_wp2_with fail
        refine HH.out.mono ?_
        rintro e w10 ⟨rfl,r1,r2⟩
        have R1:=aH r1
        have R2:=aH (HW9.out.trans r2)
        have R3:=aH (r2.row HR9.out (fun _ hk=>HC9.out.off (HR9.out.tag hk) ⟨by decide,by decide,by decide,by decide⟩ ⟨by decide,by decide,by decide⟩ ⟨by decide,by decide⟩))
        clear r1 r2 HH
        go_wp2
        go_roundw
        case rel=>exact⟨k+1,X9,_,by omega,by rw[HNX.out];go_num,by rw[HNX.out];rfl,by go_num,by rw[HNX.out];show cnt+1≤_;omega,by rw[HNX.out];exact⟨R1.out,R2.out,HAB.out,HP8.out.sub⟩,R3.out⟩
        case measure=>simp [intOf];omega
       ·have HF0:=aH hf0
        go_wp2_with fail
        refine HH.out.mono ?_
        rintro e w10 ⟨rfl,r1,r2⟩
        have R1:=aH r1
        have R2:=aH (HW9.out.trans r2)
        have R3:=aH (r2.row HR9.out (fun _ hk=>HC9.out.off (HR9.out.tag hk) ⟨by decide,by decide,by decide,by decide⟩ ⟨by decide,by decide,by decide⟩ ⟨by decide,by decide⟩))
        clear r1 r2 HH
        go_wp2
        go_roundw
        case rel=>exact⟨k+1,X9,_,by omega,by rw[HNX.out];go_num,by rw[HNX.out];dsimp only;rw[if_neg HF0.out],by go_num,by rw[HNX.out];show cnt+1≤_;omega,by rw[HNX.out];exact⟨R1.out,R2.out,HAB.out,HP8.out.sub⟩,R3.out⟩
        case measure=>simp [intOf];omega
    ·have hk1:(y.E.k.toList==key.toList)=true:=by rw[bM];exact decide_eq_true hke
     have HKE:=aH hke
     clear hke
     go_wp2_with fail
     refine HDR.out.mono ?_
     rintro e w7 ⟨l7,b7,rfl,h7,hw7,hp7⟩
     obtain⟨q1,q2⟩:=HGO.out w7 l7 h7 hw7 hp7
     have HP7:=aH q1
     have HR7:=aH q2
     have HST:=aH (oC B room { Z with X:=X } { ak with l:=l7 } id m w7 q1.at_ HFI.out)
     obtain⟨sd,hsd⟩:∃ sd,C.stored { ak with l:=l7 } id=sd:=⟨_,rfl⟩
     rw[hsd]at HST
     have HSDT:=aH hsd
     clear hsd
     clear h7 hw7 hp7 q1 q2 HDR HGO y0 y1 y2
     go_wp2_with fail
     refine HST.out.mono ?_
     rintro e w8 ⟨rfl,hb8⟩
     have HP8:=aH (HP7.out.below hb8)
     have HR8:=aH (HR7.out.below hb8)
     clear hb8 HST HP7 HR7
     cases hs:ak.s with
     | none =>
      have hst:C.stored { ak with l:=l7 } id=false:=by unfold C.stored;rw[show ({ ak with l:=l7 }:CSt).s=none from hs]
      have hvs:v.s=none:=by rw[← HAV.out];exact hs
      have HNX:Hid ((C.abs a).purge key (ids.take (k+1))=(v.less id,cnt+1,fst)):=aH (by rw[HPK.out];unfold C.Vw.purge1;rw[if_neg (by rw[HSK.out];decide)];dsimp only;rw[hvs])
      rw[HSDT.out]at hst
      subst hst
      clear hs hvs HSDT
      go_wp2
      go_roundw
      case rel=>exact⟨k+1,X,_,by omega,by rw[HNX.out];go_num,by rw[HNX.out],by go_num,by rw[HNX.out];show cnt+1≤_;omega,by rw[HNX.out];exact⟨HP8.out.at_,HP8.out.went,HP8.out.abs,HP8.out.sub⟩,HR8.out⟩
      case measure=>simp [intOf];omega
     | some s =>
      have hvs:v.s=some s:=by rw[← HAV.out];exact hs
      cases hst:V.has s.ids id with
      | false =>
       have hst2:C.stored { ak with l:=l7 } id=false:=by unfold C.stored;rw[show ({ ak with l:=l7 }:CSt).s=some s from hs];exact hst
       have HNX:Hid ((C.abs a).purge key (ids.take (k+1))=(v.less id,cnt+1,fst)):=aH (by rw[HPK.out];unfold C.Vw.purge1;rw[if_neg (by rw[HSK.out];decide)];dsimp only;rw[hvs];dsimp only;rw[if_neg (by rw[hst];decide)])
       rw[HSDT.out]at hst2
       subst hst2
       clear hs hst hvs HSDT
       go_wp2
       go_roundw
       case rel=>exact⟨k+1,X,_,by omega,by rw[HNX.out];go_num,by rw[HNX.out],by go_num,by rw[HNX.out];show cnt+1≤_;omega,by rw[HNX.out];exact⟨HP8.out.at_,HP8.out.went,HP8.out.abs,HP8.out.sub⟩,HR8.out⟩
       case measure=>simp [intOf];omega
      | true =>
       have hst2:C.stored { ak with l:=l7 } id=true:=by unfold C.stored;rw[show ({ ak with l:=l7 }:CSt).s=some s from hs];exact hst
       obtain⟨s2,code,hsd⟩:∃ s2 code,s.drop id=(s2,code):=⟨_,_,rfl⟩
       have HNX:Hid ((C.abs a).purge key (ids.take (k+1))=(({ v.less id with s:=some s2 }:C.Vw).hide id,cnt+1,if fst=0 then code else fst)):=aH (by rw[HPK.out];unfold C.Vw.purge1;rw[if_neg (by rw[HSK.out];decide)];dsimp only;rw[hvs];dsimp only;rw[if_pos hst,hsd])
       have HF2:Hid (C.Fine m s2):=aH (HFN.out.2 s2 (by rw[← HPK.out,HNX.out];rfl))
       have hfs:=HFI.out s hs
       have HSD:=aH (by
        have hq:=aBB B X s id m w8 (HP8.out.at_.sto s hs) hfs.fit hm hfs.up hfs.len hfs.sz hfs.cnt hfs.used hfs.no (by
         obtain⟨p,hp,e⟩:=List.mem_map.1 (V.has_iff.1 hst)
         rw[← e]
         exact hfs.sz p hp)
        rw[hsd]at hq
        exact hq)
       dsimp only at HSD
       obtain⟨y0,y1,y2⟩:=HP8.out.at_.cells
       dsimp only at y0 y1 y2
       rw[hs]at y0
       dsimp only[Option.map]at y0
       have HS:=aH hs
       have HHD:Hid (ak.hd.length≤1073741824):=aH (by
        have h1:=HFK.out.1
        rw[← HAV.out]at h1
        exact h1)
       rw[HSDT.out]at hst2
       subst hst2
       clear hs hst hvs hsd hfs HSDT
       go_wp2_with fail
       refine HSD.out.mono ?_
       rintro e w9 ⟨rfl,X9,hst9,hwt9,hxs9,_,_⟩
       obtain⟨q1,q2⟩:=HP8.out.at_.stored HS.out hst9 hwt9 hxs9
       have HC9:=aH q1
       have HW9:=aH (HP8.out.went.trans q2)
       have HR9:=aH (HP8.out.row HR8.out q2)
       have HH:=aH (zW B room { Z with X:=X9 } ⟨some s2,l7,ak.hd⟩ id true m w9 q1 (fun x hx=>by cases hx;exact HF2.out) (bD HXS.out (by decide)) HHD.out)
       have HAB:Hid (C.abs (C.hide ⟨some s2,l7,ak.hd⟩ id true)=({ v.less id with s:=some s2 }:C.Vw).hide id):=aH (by
        have h1:=HP8.out.abs
        dsimp only at h1
        rw[← h1]
        unfold C.abs C.hide C.Vw.hide C.stored C.Vw.stored
        dsimp only
        rw[Bool.true_and])
       clear hst9 hwt9 hxs9 q1 q2 HSD y0 y1 y2
       by_cases hf0:fst=0
       ·have hfi:(fst:Int)=0:=hf0
        subst hf0
        go_wp2_with fail
        refine HH.out.mono ?_
        rintro e w10 ⟨rfl,r1,r2⟩
        have R1:=aH r1
        have R2:=aH (HW9.out.trans r2)
        have R3:=aH (r2.row HR9.out (fun _ hk=>HC9.out.off (HR9.out.tag hk) ⟨by decide,by decide,by decide,by decide⟩ ⟨by decide,by decide,by decide⟩ ⟨by decide,by decide⟩))
        clear r1 r2 HH
        go_wp2
        go_roundw
        case rel=>exact⟨k+1,X9,_,by omega,by rw[HNX.out];go_num,by rw[HNX.out];rfl,by go_num,by rw[HNX.out];show cnt+1≤_;omega,by rw[HNX.out];exact⟨R1.out,R2.out,HAB.out,HP8.out.sub⟩,R3.out⟩
        case measure=>simp [intOf];omega
       ·have HF0:=aH hf0
        go_wp2_with fail
        refine HH.out.mono ?_
        rintro e w10 ⟨rfl,r1,r2⟩
        have R1:=aH r1
        have R2:=aH (HW9.out.trans r2)
        have R3:=aH (r2.row HR9.out (fun _ hk=>HC9.out.off (HR9.out.tag hk) ⟨by decide,by decide,by decide,by decide⟩ ⟨by decide,by decide,by decide⟩ ⟨by decide,by decide⟩))
        clear r1 r2 HH
        go_wp2
        go_roundw
        case rel=>exact⟨k+1,X9,_,by omega,by rw[HNX.out];go_num,by rw[HNX.out];dsimp only;rw[if_neg HF0.out],by go_num,by rw[HNX.out];show cnt+1≤_;omega,by rw[HNX.out];exact⟨R1.out,R2.out,HAB.out,HP8.out.sub⟩,R3.out⟩
        case measure=>simp [intOf];omega
  ·have hkk:k=n:=by omega
   subst hkk
   have hfull:ids.take k=ids:=List.take_of_length_le (by rw[HN.out];exact zA _)
   have HFU:=aH hfull
   rw[hfull]at HPA hle ⊢
   clear hfull
   obtain⟨r,hr⟩:∃ r,(C.abs a).purge key ids=r:=⟨_,rfl⟩
   rw[hr]at HPA hle ⊢
   obtain⟨v,cnt,fst⟩:=r
   dsimp only at HPA hle ⊢
   have HR:=aH hr
   clear hr HFU
   go_wp2
   go_ret2
   rw[HR.out]
   exact⟨X,ak,rfl,HPA.out.at_,HPA.out.went,HPA.out.abs,HPA.out.sub⟩
end Go.Proofs.YthjeglnkgdpijaaGreatDoor
