/- The store's table and its records in memory; the walks of Count, Ids, records. The walks of the log's Add, of Rewrite's steps and of Rewrite. Conditions: as each theorem states them. -/
import Derived.Test.YthjeglnkgdpijaaGreatDoorZ26
set_option maxHeartbeats 4000000
namespace Go.Proofs.YthjeglnkgdpijaaGreatDoor
open Go Go.RowKit Go.Maps
theorem aAJ:Tryz.prog.underlying 106=some (.map 9 3):=by kernel_rfl
theorem aHE (w:World):(zeroValue 3).run Tryz.prog w=.ok (.int .i64 0) w:=by kernel_rfl
theorem S.intR_inv {v:Value} {z:Int} {ps:List MemPlace} (h:S.wV v=some (.lit (.int .i64 z),ps)):v=.int .i64 z:=by
 unfold S.wV at h
 split at h
 ·simp only[Option.some.injEq,Prod.mk.injEq,DataW.lit.injEq,Lit.int.injEq,true_and]at h
  rw[h.1]
 ·cases h
section
variable {w:World} {b n:Nat} {t:D.NM}
theorem aKY (h:w.ownsMap Tryz.prog 9 S.wV b n (S.qU t)) (nm:ByteArray) (hs:nm.size≤maxLen) :
  (Instr.lookup 106 (.map (some b)) (.string nm) false).run Tryz.prog w=.ok (.int .i64 ((D.find t nm).getD 0)) w:=by
 obtain⟨v,ps,hr,hv⟩:=h.lookup (string_keyed bT) aAJ (aHE w) (zd:=.lit (.int .i64 0)) (zp:=[]) rfl (jJ nm hs)
 rw[hr]
 unfold S.qU at hv
 rw[D.kL]at hv
 cases hf:D.find t nm with
 | none=>rw[hf]at hv;rw[S.intR_inv hv];rfl
 | some no=>rw[hf]at hv;rw[S.intR_inv hv];rfl
theorem aNZ (nm:ByteArray):Maps.has (S.qU t) (D.key nm)=(D.find t nm).isSome:=by
 unfold S.qU D.datum
 rw[Maps.has_eq,Bool.eq_iff_iff,List.any_eq_true]
 constructor
 ·rintro⟨p,hp,hk⟩
  obtain⟨q,hq,rfl⟩:=List.mem_map.1 hp
  have:q.1=nm:=by
   have:(D.key q.1).sameKey (D.key nm)=true:=hk
   rw[D.dX]at this
   exact of_decide_eq_true this
  cases hf:D.find t nm with
  | some _=>rfl
  | none=>exact absurd this (D.jT hf q hq)
 ·intro h
  obtain⟨no,hno⟩:=Option.isSome_iff_exists.1 h
  exact⟨_,List.mem_map_of_mem (D.aN hno),by show (D.key nm).sameKey (D.key nm)=true;rw[D.dX];simp⟩
theorem aHQ (h:w.ownsMap Tryz.prog 9 S.wV b n (S.qU t)) (nm:ByteArray) (hs:nm.size≤maxLen) :
  (Instr.lookup 106 (.map (some b)) (.string nm) true).run Tryz.prog w=.ok (.tuple #[.int .i64 ((D.find t nm).getD 0),.bool (D.find t nm).isSome]) w:=by
 obtain⟨v,ps,hr,hv⟩:=h.look_ok (string_keyed bT) aAJ (aHE w) (zd:=.lit (.int .i64 0)) (zp:=[]) rfl (jJ nm hs)
 rw[aNZ]at hr
 rw[hr]
 unfold S.qU at hv
 rw[D.kL]at hv
 cases hf:D.find t nm with
 | none=>rw[hf]at hv;rw[S.intR_inv hv];rfl
 | some no=>rw[hf]at hv;rw[S.intR_inv hv];rfl
theorem aCK (h:w.ownsMap Tryz.prog 9 S.wV b n (S.qU t)) (ty:TypeId):(Builtin.len_ #[106] ty #[.map (some b)]).run Tryz.prog w=.ok (.int .i64 (t.length:Nat)) w:=by
 have:=h.len aAJ ty
 rw[this]
 unfold S.qU D.datum
 rw[Maps.size_eq]
 simp
theorem aAK (h:w.ownsMap Tryz.prog 9 S.wV b n (S.qU t)):w.ownsMap Tryz.prog 9 S.wV b t.length (S.qU t):=by
 obtain⟨es,cl,hb,F,hs,hD⟩:=h
 refine⟨es,cl,hb,F,?_,hD⟩
 have h1:=congrArg Maps.size hD
 unfold S.qU D.datum at h1
 rw[Maps.size_eq,Maps.size_eq,length_sorted]at h1
 simp at h1
 omega
end
def dA:List R.Rc→List Value
 | []=>[]
 | r::t=>.int .i64 r.seq::.int .i64 r.op::.int .i64 r.no::.string r.id::dA t
theorem lY:∀ l m:List R.Rc,dA (l++m)=dA l++dA m
 | [],m=>rfl
 | r::t,m=>by simp [dA,lY t m]
theorem wL:∀ l:List R.Rc,∀ u∈dA l,u.oneCell'=true
 | [],u,h=>by cases h
 | r::t,u,h=>by
  simp only[dA,List.mem_cons]at h
  rcases h with rfl | rfl | rfl | rfl | h
  ·rfl
  ·rfl
  ·rfl
  ·rfl
  ·exact wL t u h
theorem aAY:∀ (l:List R.Rc) (k:Nat) (h:k < l.length),(dA l)[k * 4]?=some (.int .i64 l[k].seq)∧(dA l)[k * 4+1]?=some (.int .i64 l[k].op)∧(dA l)[k * 4+2]?=some (.int .i64 l[k].no)∧(dA l)[k * 4+3]?=some (.string l[k].id)
 | r::t,0,_=>by simp [dA]
 | r::t,k+1,h=>by
  have:=aAY t k (by simpa using h)
  have e:(k+1) * 4=k * 4+4:=by omega
  simp only[dA,e,List.getElem_cons_succ]
  exact this
theorem aOC {w:World} {A:Option Addr} {n k:Nat} {l:List R.Rc} (h:Rd w A n 4 (dA l)) (hk:k < n) (hl:l.length=n) :
  ∃ b o,A=some ⟨b,o,none⟩∧b < w.heap.size∧w.cell? ⟨b,o+k * 4,none⟩=some (.int .i64 (l[k]'(by omega)).seq)∧w.cell? ⟨b,o+k * 4+1,none⟩=some (.int .i64 (l[k]'(by omega)).op)∧w.cell? ⟨b,o+k * 4+2,none⟩=some (.int .i64 (l[k]'(by omega)).no)∧w.cell? ⟨b,o+k * 4+3,none⟩=some (.string (l[k]'(by omega)).id):=by
 obtain⟨b,o,rfl,hb,hc⟩:=h.2 (by omega)
 obtain⟨h0,h1,h2,h3⟩:=aAY l k (by omega)
 exact⟨b,o,rfl,hb,hc _ _ h0,by rw[Nat.add_assoc];exact hc _ _ h1,by rw[Nat.add_assoc];exact hc _ _ h2,by rw[Nat.add_assoc];exact hc _ _ h3⟩
theorem Tryz.infoRec:(Tryz.prog.info? 111).map (fun i=>(i.zero,i.size,i.bytes))=some (some (.agg #[.int .i64 0,.int .i64 0,.int .i64 0,.string ⟨#[]⟩]),4,40):=by kernel_rfl
section
variable (w:World) {ops:Array Oper} {rest:List Oper} {o:Oper} {a:Act} {K:Act→World→Prop} {Q:Exit→Act→World→Prop}
theorem wpRec (s x:Operand) (ho:o.op=.call { callee:=.builtin .append,args:=#[s,x],argTypes:=#[103,103] })
  (base:Nat) (A:Option Addr) (n c:Nat) (xs:List R.Rc) (hs:a.eval s=.slice A n c) (hown:Row w base 111 4 A n c (dA xs))
  (S:Option Addr) (m d:Nat) (news:List R.Rc) (hx:a.eval x=.slice S m d) (hr:Rd w S m 4 (dA news)) (h63:n+m≤2199023255552) (hbase:base≤w.heap.size)
  (h:∀ A' c' w',Row w' base 111 4 A' (n+m) c' (dA (xs++news))→App w w' A c A' c'→K (a.put o.dst (.slice A' (n+m) c')) w'):o.wp Tryz.prog a w K Q:=by
 obtain⟨i0,hi0,hz0,hz1,hz2⟩:=info_parts Tryz.infoRec
 exact rC w s x _ ho _ i0 _ 4 40 Tryz.underlying103 hi0 hz0 hz1 hz2 rfl (by omega) base A n c _ hs hown S m d _ hx hr (wL news) (by simp only[maxLen];omega) (by omega) hbase (by rw[← lY];exact h)
theorem aQM (hgd:o.guard=none) (s x:Operand) (ho:o.op=.call { callee:=.builtin .append,args:=#[s,x],argTypes:=#[103,103] })
  (base:Nat) (A:Option Addr) (n c:Nat) (xs:List R.Rc) (hs:a.eval s=.slice A n c) (hown:Row w base 111 4 A n c (dA xs))
  (S:Option Addr) (m d:Nat) (news:List R.Rc) (hx:a.eval x=.slice S m d) (hr:Rd w S m 4 (dA news)) (h63:n+m≤2199023255552) (hbase:base≤w.heap.size)
  (h:∀ A' c' w',Row w' base 111 4 A' (n+m) c' (dA (xs++news))→App w w' A c A' c'→wpList Tryz.prog ops Q rest (a.put o.dst (.slice A' (n+m) c')) w'):wpList Tryz.prog ops Q (o::rest) a w :=
 wpList_plain hgd fun _ hK=>wpRec w s x ho base A n c xs hs hown S m d news hx hr h63 hbase fun A' c' w' h2 h3=>hK _ _ (h A' c' w' h2 h3)
end
theorem lJ {F F':Nat→Prop} {w w':World} {A:Option Addr} {n size:Nat} {xs:List Value} (h:aO F w F' w') (hx:Rd w A n size xs) (hA:0 < n→∀ a,A=some a→¬ F a.block):0 < n→∀ a,A=some a→¬ F' a.block:=by
 intro hn a ha hf
 obtain⟨b,o,e,hlt,_⟩:=hx.2 hn
 rw[ha]at e
 cases e
 rcases h.foot _ hf with h1 | h1
 ·exact hA hn _ ha h1
 ·dsimp only at h1
  omega
theorem Fit.roomy {d:D.Dsk} {m:Nat} (hf:D.Fit m d):0≤d.room∧d.room≤1152921504606846976:=⟨hf.room.1,by have:=hf.room.2;omega⟩
theorem lN (B:Nat) (M:DM) (s:D.Dsk) (nm:ByteArray) (w:World) (h:bU B M s w) (hs:s.Sml) (ok:s.Ok) (hn:nm.size≤1099511627776):Calls Tryz.prog 95 #[.pointer (some ⟨M.d,0,none⟩),.string nm] w (aY B M s w (s.sync nm)) :=
 (aKZ B M s nm w h hs ok hn).mono fun _ _ h=>⟨h.1,M,h.2.1,h.2.2⟩
theorem count_any (B l:Nat) (M:DM) (d:D.Dsk) (count:Nat) (w:World) (h:jM B l M d count w):Calls Tryz.prog 68 #[.pointer (some ⟨l,0,none⟩)] w (uY w (.int .i64 count)):=by
 obtain⟨y0,y1⟩:=h.cells
 clear h y0
 go_enter Tryz.func68,Tryz.ntmps68
 go_wp2
 go_ret
 exact⟨rfl,rfl⟩
theorem yS (B:Nat) (X:SM) (s:S.Sto) (w:World) (h:dU B X s w) (hu:D.Up s.tab) (hl:s.tab.length≤1073741824) :
  Calls Tryz.prog 52 #[.pointer (some ⟨X.st,0,none⟩)] w (dN w 9 1 s.ids.length (aC s.ids)):=by
 have HD:=aH h
 have HKE:=aH (fun u=>aIU (some X.tb) u)
 obtain⟨y0,y1,y2,y3⟩:=h.cells
 have hb2:Below w.heap.size w (w.alloc (.cells #[.map (some X.tb)] 106)):=(zB _ _).alloc (zA _) _
 have HSO:=aH (aCO (fun n=>n) s.tab w.heap.size X.tb (w.alloc (.cells #[.map (some X.tb)] 106)) (by simp) ((Blk.new w _ _).cell 0 rfl) (h.below hb2).tab hu hl)
 have HB2:=aH hb2
 clear h y0 y1 y3 hb2
 go_enter Tryz.func52,Tryz.ntmps52
 go_wp2_with fail
 refine (HKE.out _).mono ?_
 rintro e w2 ⟨rfl,rfl⟩
 clear y2 HKE
 go_wp2_with fail
 refine HSO.out.mono ?_
 rintro e w3 ⟨A,c,rfl,hr,hb3⟩
 have HR:=aH (hr.mono HB2.out.size)
 have HB3:=aH (aA HB2.out.size HB2.out hb3)
 clear hr hb3 HSO HB2
 go_wp2
 go_ret
 exact⟨A,c,by rw[show s.ids.length=s.tab.length from List.length_map _];rfl,HR.out,HB3.out⟩
theorem S.records_take (t:D.NM) (k:Nat) (h:k < t.length):S.records (t.take (k+1))=S.records (t.take k)++[⟨0,1,(t[k]'h).2,(t[k]'h).1⟩]:=by
 unfold S.records
 rw[bI h,List.map_append]
 rfl
theorem aCY (B:Nat) (X:SM) (s:S.Sto) (w:World) (h:dU B X s w) (hu:D.Up s.tab) (hl:s.tab.length≤1073741824) (hz:∀ p∈s.tab,p.1.size≤1099511627776) :
  Calls Tryz.prog 56 #[.pointer (some ⟨X.st,0,none⟩)] w (dN w 111 4 (S.records s.tab).length (dA (S.records s.tab))):=by
 have HD:=aH h
 have HI:=aH (yS B X s w h hu hl)
 obtain⟨t,ht⟩:∃ t,t=s.tab:=⟨_,rfl⟩
 have HT:=aH ht
 have hil:s.ids.length=t.length:=by unfold S.Sto.ids;rw[List.length_map,ht]
 rw[hil]at HI
 have HRL:Hid ((S.records t).length=t.length):=aH (by unfold S.records;rw[List.length_map])
 rw[← ht]at hu hl hz ⊢
 rw[HRL.out]
 have HU:=aH hu
 have HZ:=aH hz
 have HIL:=aH hil
 clear h ht hu hz hil
 go_enter Tryz.func56,Tryz.ntmps56
 go_wp2_with fail
 refine HI.out.mono ?_
 rintro e w1 ⟨A1,c1,rfl,hr1,hb1⟩
 have HR1:=aH hr1.rd
 have HB1:=aH hb1
 clear hr1 hb1 HI
 go_wp2
 go_loopw [3,9] (fun out i wr=>∃ (k:Nat) (A2:Option Addr) (c2:Nat),k≤t.length∧i=.int .i64 k∧out=.slice A2 k c2∧Row wr w1.heap.size 111 4 A2 k c2 (dA (S.records (t.take k)))∧Below w1.heap.size w1 wr) (fun _ i _=>t.length - (intOf i).toNat)
 case atStart=>exact⟨0,none,0,zF _,rfl,rfl,Row.none_ _ _ _ _,zB _ _⟩
 case round =>
  obtain⟨k,A2,c2,hk,rfl,rfl,hrow,hb1e⟩:=hrel
  have HROW:=aH hrow
  have HBE:=aH (aA HB1.out.size HB1.out hb1e)
  have HB1E:=aH hb1e
  clear hrow hb1e
  by_cases hlt:k < t.length
  ·have hki:k < s.ids.length:=by rw[HIL.out];exact hlt
   obtain⟨b,o,rfl,hb,hc⟩:=(HR1.out.below HB1E.out).str hlt HIL.out
   have HTK:=aH (S.records_take t k hlt)
   have hid_:s.ids[k]'hki=(t[k]'hlt).1:=by
    have key:∀ (l:List ByteArray),l=t.map (·.1)→∀ h:k < l.length,l[k]'h=(t[k]'hlt).1:=by
     rintro l rfl h
     simp
    exact key s.ids (by rw[HT.out];rfl) hki
   have hfd:=D.fB HU.out (List.getElem_mem hlt)
   have hsz:=HZ.out _ (List.getElem_mem hlt)
   rw[hid_]at hc
   generalize t[k]'hlt=p at *
   obtain⟨nm,no⟩:=p
   dsimp only at hfd hsz hc HTK
   have hlk:=aKY ((HD.out.below HBE.out).tab) nm (by simp only[maxLen];omega)
   rw[← HT.out,hfd]at hlk
   obtain⟨y0,y1,y2,y3⟩:=(HD.out.below HBE.out).cells
   simp only[Option.getD_some]at hlk
   clear y0 y1 y3 hid_ hki hfd
   have HNEW:=aH (Rd.newRow wr 111 #[.int .i64 0,.int .i64 1,.int .i64 no,.string nm] 1 4 rfl)
   have hbz:w1.heap.size≤(wr.alloc (.cells #[.int .i64 0,.int .i64 1,.int .i64 no,.string nm] 111)).heap.size:=by rw[bJ];have:=HB1E.out.size;omega
   go_wp2_with (at_builtin;refine aQM _ rfl _ _ rfl w1.heap.size A2 k c2 (S.records (t.take k)) rfl (HROW.out.alloc _) _ 1 1 [⟨0,1,no,nm⟩] rfl HNEW.out (by omega) hbz ?_;intro A3 c3 w3 hr3 ha3;have HR3:=aH hr3;have HBA:=aH (ha3.below (HROW.out.alloc _) hbz);clear hr3 ha3)
   go_roundw
   case rel =>
    exact⟨k+1,A3,c3,by omega,by go_num,rfl,by rw[HTK.out];exact HR3.out,(HB1E.out.alloc HB1E.out.size _).trans HBA.out⟩
   case measure=>simp [intOf];omega
  ·have hkt:k=t.length:=by omega
   have HROW2:Hid (Row wr w.heap.size 111 4 A2 k c2 (dA (S.records t))):=aH (by
    have:=HROW.out.mono HB1.out.size
    rwa [List.take_of_length_le (by omega)]at this)
   clear HROW
   subst hkt
   go_wp2
   go_ret
   exact⟨A2,c2,rfl,HROW2.out,HBE.out⟩
theorem aE0 {B l n c base:Nat} {M:DM} {d:D.Dsk} {count:Nat} {w w1:World} {A:Option Addr} {bs:List UInt8} (h:jM B l M d count w) (hr:bQ w1 base A n c bs) (hb:w.heap.size≤base):0 < n→∀ a,A=some a→¬ aX l M d a.block:=by
 intro hn a ha
 have h1:=hr.2.1
 rcases hr.2.2 with h2 | ⟨g,h2,hB,_⟩
 ·omega
 ·rw[ha]at h2
  cases h2
  rintro (hf | hf)
  ·have:=h.disk.lt hf
   dsimp only at this
   omega
  ·have:=h.blk.lt
   dsimp only at hf
   omega
theorem aBT (r:R.Rc) (h:r.id.size≤2147483648):(R.enc r).length≤2147483663:=by
 by_cases hc:R.code r=0
 ·rw[R.zG r hc];omega
 ·rw[R.aJI hc];exact zF _
theorem dH:S.bM.size≤1099511627776∧S.dB.size≤1099511627776:=⟨by show 3≤_;decide,by show 7≤_;decide⟩
section
variable {B l:Nat} {M:DM} {d:D.Dsk} {count m:Nat} {w:World}
theorem aY.log {x:D.Dsk × Int} {e:Ending} {w':World} (h:jM B l M d count w) (hr:aY B M d w x e w'):kU B l M d w (x.1,count,x.2) e w':=by
 obtain⟨he,M',hd,hs⟩:=hr
 obtain⟨h1,h2⟩:=h.step hd hs
 exact⟨he,M',h1,h2,hs.same⟩
end
theorem add_any (B l:Nat) (M:DM) (d:D.Dsk) (count m:Nat) (op no:Int) (id:ByteArray) (w:World) (h:jM B l M d count w) (hf:D.Fit m d) (hm:m≤134217728) (hc:count≤1099511627776) (hi:id.size≤2147483648) :
  Calls Tryz.prog 69 #[.pointer (some ⟨l,0,none⟩),.int .i64 op,.int .i64 no,.string id] w (kU B l M d w (S.add d count op no id)):=by
 have HD:=aH h
 have HF:=aH hf
 have HE:=aH (sF ⟨count,op,no,id⟩ w hi)
 have hes:=aBT ⟨count,op,no,id⟩ hi
 obtain⟨y0,y1⟩:=h.cells
 obtain⟨G,hG⟩:∃ G,S.add d count op no id=G:=⟨_,rfl⟩
 have HG:Hid (G=if R.code ⟨count,op,no,id⟩≠0 then (d,count,R.code ⟨count,op,no,id⟩)
  else if (d.append S.bM (R.enc ⟨count,op,no,id⟩)).2≠0 then ((d.append S.bM (R.enc ⟨count,op,no,id⟩)).1,count,(d.append S.bM (R.enc ⟨count,op,no,id⟩)).2)
  else (((d.append S.bM (R.enc ⟨count,op,no,id⟩)).1.sync S.bM).1,count+1,((d.append S.bM (R.enc ⟨count,op,no,id⟩)).1.sync S.bM).2)):=aH hG.symm
 rw[hG]
 dsimp only at HE
 generalize R.enc ⟨count,op,no,id⟩=bs at *
 generalize R.code ⟨count,op,no,id⟩=code at *
 have HA:=aH (fun (A:Option Addr) (c:Nat) (u:World) (hb:Below w.heap.size w u) (hr:bQ u w.heap.size A bs.length c bs)=>oP B M d S.bM A bs.length c bs u (h.below hb).disk (hf.sml (by omega)) hf.ok (hf.used (by omega)) (Fit.roomy hf) dH.1 rfl (by omega) hr.rd (fun hn a ha hfo=>aE0 h hr (zA _) hn a ha (.inl hfo)))
 have HF1:=aH (hf.append S.bM bs)
 clear h hf hG
 go_enter Tryz.func69,Tryz.ntmps69
 go_wp2_with fail
 refine HE.out.mono ?_
 rintro e w1 ⟨A1,c1,rfl,hr1,hb1⟩
 have HD1:=aH (HD.out.below hb1)
 have HB1:=aH hb1
 have HA1:=aH (HA.out A1 c1 w1 hb1 hr1)
 clear hb1 hr1 HE HA y0 y1 HD
 obtain⟨y0,y1⟩:=HD1.out.cells
 by_cases h0:code=0
 rotate_left
 ·rw[if_pos h0]at HG
  have h0b:(code != 0)=true:=by simpa using h0
  go_wp2
  go_ret
  exact⟨by rw[HG.out]<;>rfl,M,by rw[HG.out];exact HD1.out,by rw[HG.out];exact aO.below HB1.out _,rfl⟩
 subst h0
 rw[if_neg (by simp)]at HG
 go_wp2_with fail
 refine HA1.out.mono ?_
 rintro e w2 ⟨rfl,M2,hd2,hs2⟩
 obtain⟨hl2,hw2⟩:=HD1.out.step hd2 hs2
 have HD2:=aH hl2
 have HW2:=aH ((aO.below HB1.out (aX l M d)).trans hw2)
 have HM2:=aH hs2.same
 obtain⟨Y,hY⟩:∃ Y,d.append S.bM bs=Y:=⟨_,rfl⟩
 rw[hY]at HD2 HW2 HG HF1 ⊢
 obtain⟨d2,e2⟩:=Y
 dsimp only at HD2 HW2 HG HF1 ⊢
 clear hd2 hs2 hl2 hw2 HA1 HB1 HD1 y0 y1 hY
 obtain⟨y0,y1⟩:=HD2.out.cells
 have f1:=HD2.out.blk.free 1
 by_cases h2:e2=0
 rotate_left
 ·rw[if_pos h2]at HG
  have h2b:(e2 != 0)=true:=by simpa using h2
  go_wp2
  go_ret
  exact⟨by rw[HG.out]<;>rfl,M2,by rw[HG.out];exact HD2.out,by rw[HG.out];exact HW2.out,HM2.out⟩
 subst h2
 rw[if_neg (by simp)]at HG
 obtain⟨hl3,hw3⟩:=HD2.out.counted (count+1)
 rw[show ((count+1:Nat):Int)=(count:Int)+1 by push_cast;rfl]at hl3 hw3
 have HD3:=aH hl3
 have HW3:=aH (HW2.out.trans hw3)
 have HSY:=aH (lN B M2 d2 S.bM _ hl3.disk (HF1.out.sml (by omega)) HF1.out.ok dH.1)
 obtain⟨z0,z1⟩:=hl3.cells
 clear hl3 hw3
 go_wp2_with fail
 refine HSY.out.mono ?_
 rintro e w4 hr4
 obtain⟨rfl,M4,hd4,hw4,hm4⟩:=aY.log HD3.out hr4
 have HD4:=aH hd4
 have HW4:=aH (HW3.out.trans hw4)
 have HM4:=aH (hm4.trans HM2.out)
 clear hr4 hd4 hw4 hm4 HSY z0 z1 y0 y1 f1
 go_wp2
 go_ret
 exact⟨by rw[HG.out]<;>rfl,M4,by rw[HG.out];exact HD4.out,by rw[HG.out];exact HW4.out,HM4.out⟩
section
variable (B l:Nat) (M:DM) (d:D.Dsk) (count m bx:Nat) (w:World)
theorem aN7 (h:jM B l M d count w) (hf:D.Fit m d) (hm:m≤134217728) (hb:Blk w bx #[.pointer (some ⟨l,0,none⟩)] 102) :
  Calls Tryz.prog 103 #[.pointer (some ⟨bx,0,none⟩)] w (kU B l M d w ((d.create S.dB).1,count,(d.create S.dB).2)):=by
 have HC:=aH (oH B M d S.dB w h.disk (hf.sml (by omega)) hf.ok dH.2)
 have HD:=aH h
 obtain⟨y0,y1⟩:=h.cells
 have z0:=hb.cells1
 clear h hb y1
 go_enter Tryz.func103,Tryz.ntmps103
 go_wp2_with fail
 refine HC.out.mono ?_
 rintro e w4 hr4
 have h4:=aY.log HD.out hr4
 obtain⟨rfl,h5⟩:=h4
 clear hr4 HC y0 z0
 go_wp2
 go_ret
 exact⟨rfl,h5⟩
theorem aN6 (by_:Nat) (A:Option Addr) (n c:Nat) (bs:List UInt8) (h:jM B l M d count w) (hf:D.Fit m d) (hm:m≤134217728) (hb:Blk w bx #[.pointer (some ⟨l,0,none⟩)] 102) (hy:Blk w by_ #[.slice A n c] 39) (hl:bs.length=n) (hln:n≤1099511627776) (hx:Rd w A n 1 (aB bs)) (hA:0 < n→∀ a,A=some a→¬ aX l M d a.block) :
  Calls Tryz.prog 104 #[.pointer (some ⟨bx,0,none⟩),.pointer (some ⟨by_,0,none⟩)] w (kU B l M d w ((d.append S.dB bs).1,count,(d.append S.dB bs).2)):=by
 have HC:=aH (fun (u:World) (hu:Below w.heap.size w u)=>oP B M d S.dB A n c bs u (h.below hu).disk (hf.sml (by omega)) hf.ok (hf.used (by omega)) (Fit.roomy hf) dH.2 hl hln (hx.below hu) (fun hn a ha hfo=>hA hn a ha (.inl hfo)))
 have HD:=aH h
 clear h hx hA
 go_enter Tryz.func104,Tryz.ntmps104
 go_upto_region 1 with fail
 have hS0:Below w.heap.size w w.drew:=(zB _ _).drew
 have HZB:=aH hb
 have HZY:=aH hy
 clear hb hy
 refine wp_region_noPanic ?_
 refine HT.begin (n:=5) (S:=(fun u=>Below w.heap.size w u)) (by kernel_rfl) hS0 ?_
 generalize w.drew=wd at *
 refine HT.take 0 (.pointer (some ⟨l,0,none⟩)) rfl (by kernel_rfl) (fun _ _ _ h=>h) (Or.inl ⟨by rfl,?_⟩) ?_
 ·intro u hu
  have z0:=(HZB.out.below hu).cells1
  go_simp
 refine HT.take 1 (.pointer (some ⟨l,0,none⟩)) rfl (by kernel_rfl) (fun _ _ _ h=>h) (Or.inl ⟨by rfl,?_⟩) ?_
 ·intro u hu
  go_simp
 refine HT.take 2 (.pointer (some ⟨l,0,none⟩)) rfl (by kernel_rfl) (fun _ _ _ h=>h) (Or.inl ⟨by rfl,?_⟩) ?_
 ·intro u hu
  go_simp
 refine HT.take 3 (.pointer (some ⟨M.d,0,none⟩)) rfl (by kernel_rfl) (fun _ _ _ h=>h) (Or.inl ⟨by rfl,?_⟩) ?_
 ·intro u hu
  obtain⟨y0,y1⟩:=(HD.out.below hu).cells
  go_simp
 refine HT.take 4 (.slice A n c) rfl (by kernel_rfl) (fun _ _ _ h=>h) (Or.inl ⟨by rfl,?_⟩) (?_:HT _ _ _ _ _ _ _ ⟨#[.pointer (some ⟨bx,0,none⟩),.pointer (some ⟨by_,0,none⟩),_,.pointer (some ⟨l,0,none⟩),.pointer (some ⟨l,0,none⟩),.pointer (some ⟨l,0,none⟩),.pointer (some ⟨M.d,0,none⟩),.slice A n c,_],[]⟩ _)
 ·intro u hu
  have z1:=(HZY.out.below hu).cells1
  go_simp
 refine HT.tail _ rfl rfl (by kernel_rfl) (fun hS=>?_)
 have hbd:=hS
 clear hS hS0 HZB HZY
 have HD1:=aH (HD.out.below hbd)
 have HC1:=aH (HC.out _ hbd)
 have HW1:Hid (aO (aX l M d) w (aX l M d) _):=aH (aO.below hbd _)
 clear HC HD hbd
 go_wp2_with fail
 refine HC1.out.mono ?_
 rintro e w4 hr4
 obtain⟨rfl,M4,h5,h6,h7⟩:=aY.log HD1.out hr4
 have h8:=HW1.out.trans h6
 clear hr4 HC1 h6
 go_wp2
 refine NoPanic.normal ?_
 go_wp2
 go_ret
 exact⟨rfl,M4,h5,h8,h7⟩
theorem aN5 (h:jM B l M d count w) (hf:D.Fit m d) (hm:m≤134217728) (hb:Blk w bx #[.pointer (some ⟨l,0,none⟩)] 102) :
  Calls Tryz.prog 106 #[.pointer (some ⟨bx,0,none⟩)] w (kU B l M d w ((d.sync S.dB).1,count,(d.sync S.dB).2)):=by
 have HC:=aH (lN B M d S.dB w h.disk (hf.sml (by omega)) hf.ok dH.2)
 have HD:=aH h
 obtain⟨y0,y1⟩:=h.cells
 have z0:=hb.cells1
 clear h hb y1
 go_enter Tryz.func106,Tryz.ntmps106
 go_wp2_with fail
 refine HC.out.mono ?_
 rintro e w4 hr4
 have h4:=aY.log HD.out hr4
 obtain⟨rfl,h5⟩:=h4
 clear hr4 HC y0 z0
 go_wp2
 go_ret
 exact⟨rfl,h5⟩
theorem aN4 (h:jM B l M d count w) (hf:D.Fit m d) (hm:m≤134217728) (hb:Blk w bx #[.pointer (some ⟨l,0,none⟩)] 102) :
  Calls Tryz.prog 107 #[.pointer (some ⟨bx,0,none⟩)] w (kU B l M d w ((d.rename S.dB S.bM).1,count,(d.rename S.dB S.bM).2)):=by
 have HC:=aH (aFR B M d S.dB S.bM w h.disk (hf.sml (by omega)) dH.2 dH.1)
 have HD:=aH h
 obtain⟨y0,y1⟩:=h.cells
 have z0:=hb.cells1
 clear h hb y1
 go_enter Tryz.func107,Tryz.ntmps107
 go_wp2_with fail
 refine HC.out.mono ?_
 rintro e w4 hr4
 have h4:=aY.log HD.out hr4
 obtain⟨rfl,h5⟩:=h4
 clear hr4 HC y0 z0
 go_wp2
 go_ret
 exact⟨rfl,h5⟩
end
end Go.Proofs.YthjeglnkgdpijaaGreatDoor
