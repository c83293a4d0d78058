/- The store's table and its records in memory; the walks of Count, Ids, records. The walks of the log's Add, of Rewrite's steps and of Rewrite. The walk of the log's Rewrite. Conditions: as each theorem states them. -/
import Derived.Test.YthjeglnkgdpijaaGreatDoorZ28
set_option maxHeartbeats 4000000
set_option maxRecDepth 100000
namespace Go.Proofs.YthjeglnkgdpijaaGreatDoor
open Go Go.RowKit Go.Maps
theorem aA0:Tryz.prog.underlying 106=some (.map 9 3):=by kernel_rfl
theorem aIC (w:World):(zeroValue 3).run Tryz.prog w=.ok (.int .i64 0) w:=by kernel_rfl
theorem S.intR_inv {v:Value} {z:Int} {ps:List MemPlace} (h:S.xW v=some (.lit (.int .i64 z),ps)):v=.int .i64 z:=by
 unfold S.xW at h
 split at h
 ·simp only[Option.some.injEq,Prod.mk.injEq,DataW.lit.injEq,Lit.int.injEq,true_and]at h
  rw[h.1]
 ·cases h
section
variable {w:World} {b n:Nat} {t:D.NM}
theorem aL0 (h:w.ownsMap Tryz.prog 9 S.xW b n (S.rY t)) (nm:ByteArray) (hs:nm.size≤maxLen) :
  (Instr.lookup 106 (.map (some b)) (.string nm) false).run Tryz.prog w=.ok (.int .i64 ((D.find t nm).getD 0)) w:=by
 obtain⟨v,ps,hr,hv⟩:=h.lookup (string_keyed dA) aA0 (aIC w) (zd:=.lit (.int .i64 0)) (zp:=[]) rfl (jU nm hs)
 rw[hr]
 unfold S.rY at hv
 rw[D.lC]at hv
 cases hf:D.find t nm with
 | none=>rw[hf]at hv;rw[S.intR_inv hv];rfl
 | some no=>rw[hf]at hv;rw[S.intR_inv hv];rfl
theorem aO9 (nm:ByteArray):Maps.has (S.rY t) (D.key nm)=(D.find t nm).isSome:=by
 unfold S.rY D.datum
 rw[Maps.has_eq,Bool.eq_iff_iff,List.any_eq_true]
 constructor
 ·rintro⟨p,hp,hk⟩
  obtain⟨q,hq,rfl⟩:=List.mem_map.1 hp
  have:q.1=nm:=by
   have:(D.key q.1).sameKey (D.key nm)=true:=hk
   rw[D.eY]at this
   exact of_decide_eq_true this
  cases hf:D.find t nm with
  | some _=>rfl
  | none=>exact absurd this (D.kG hf q hq)
 ·intro h
  obtain⟨no,hno⟩:=Option.isSome_iff_exists.1 h
  exact⟨_,List.mem_map_of_mem (D.aI hno),by show (D.key nm).sameKey (D.key nm)=true;rw[D.eY];simp⟩
theorem aIO (h:w.ownsMap Tryz.prog 9 S.xW b n (S.rY t)) (nm:ByteArray) (hs:nm.size≤maxLen) :
  (Instr.lookup 106 (.map (some b)) (.string nm) true).run Tryz.prog w=.ok (.tuple #[.int .i64 ((D.find t nm).getD 0),.bool (D.find t nm).isSome]) w:=by
 obtain⟨v,ps,hr,hv⟩:=h.look_ok (string_keyed dA) aA0 (aIC w) (zd:=.lit (.int .i64 0)) (zp:=[]) rfl (jU nm hs)
 rw[aO9]at hr
 rw[hr]
 unfold S.rY at hv
 rw[D.lC]at hv
 cases hf:D.find t nm with
 | none=>rw[hf]at hv;rw[S.intR_inv hv];rfl
 | some no=>rw[hf]at hv;rw[S.intR_inv hv];rfl
theorem aC6 (h:w.ownsMap Tryz.prog 9 S.xW b n (S.rY t)) (ty:TypeId):(Builtin.len_ #[106] ty #[.map (some b)]).run Tryz.prog w=.ok (.int .i64 (t.length:Nat)) w:=by
 have:=h.len aA0 ty
 rw[this]
 unfold S.rY D.datum
 rw[Maps.size_eq]
 simp
theorem aA1 (h:w.ownsMap Tryz.prog 9 S.xW b n (S.rY t)):w.ownsMap Tryz.prog 9 S.xW b t.length (S.rY t):=by
 obtain⟨es,cl,hb,F,hs,hD⟩:=h
 refine⟨es,cl,hb,F,?_,hD⟩
 have h1:=congrArg Maps.size hD
 unfold S.rY D.datum at h1
 rw[Maps.size_eq,Maps.size_eq,length_sorted]at h1
 simp at h1
 omega
end
def dH:List R.Rc→List Value
 | []=>[]
 | r::t=>.int .i64 r.seq::.int .i64 r.op::.int .i64 r.no::.string r.id::dH t
theorem mX:∀ l m:List R.Rc,dH (l++m)=dH l++dH m
 | [],m=>rfl
 | r::t,m=>by simp [dH,mX t m]
theorem xJ:∀ l:List R.Rc,∀ u∈dH l,u.oneCell'=true
 | [],u,h=>by cases h
 | r::t,u,h=>by
  simp only[dH,List.mem_cons]at h
  rcases h with rfl | rfl | rfl | rfl | h
  ·rfl
  ·rfl
  ·rfl
  ·rfl
  ·exact xJ t u h
theorem aBI:∀ (l:List R.Rc) (k:Nat) (h:k < l.length),(dH l)[k * 4]?=some (.int .i64 l[k].seq)∧(dH l)[k * 4+1]?=some (.int .i64 l[k].op)∧(dH l)[k * 4+2]?=some (.int .i64 l[k].no)∧(dH l)[k * 4+3]?=some (.string l[k].id)
 | r::t,0,_=>by simp [dH]
 | r::t,k+1,h=>by
  have:=aBI t k (by simpa using h)
  have e:(k+1) * 4=k * 4+4:=by omega
  simp only[dH,e,List.getElem_cons_succ]
  exact this
theorem aPM {w:World} {A:Option Addr} {n k:Nat} {l:List R.Rc} (h:Rd w A n 4 (dH l)) (hk:k < n) (hl:l.length=n) :
  ∃ b o,A=some ⟨b,o,none⟩∧b < w.heap.size∧w.cell? ⟨b,o+k * 4,none⟩=some (.int .i64 (l[k]'(by omega)).seq)∧w.cell? ⟨b,o+k * 4+1,none⟩=some (.int .i64 (l[k]'(by omega)).op)∧w.cell? ⟨b,o+k * 4+2,none⟩=some (.int .i64 (l[k]'(by omega)).no)∧w.cell? ⟨b,o+k * 4+3,none⟩=some (.string (l[k]'(by omega)).id):=by
 obtain⟨b,o,rfl,hb,hc⟩:=h.2 (by omega)
 obtain⟨h0,h1,h2,h3⟩:=aBI l k (by omega)
 exact⟨b,o,rfl,hb,hc _ _ h0,by rw[Nat.add_assoc];exact hc _ _ h1,by rw[Nat.add_assoc];exact hc _ _ h2,by rw[Nat.add_assoc];exact hc _ _ h3⟩
theorem Tryz.infoRec:(Tryz.prog.info? 111).map (fun i=>(i.zero,i.size,i.bytes))=some (some (.agg #[.int .i64 0,.int .i64 0,.int .i64 0,.string ⟨#[]⟩]),4,40):=by kernel_rfl
section
variable (w:World) {ops:Array Oper} {rest:List Oper} {o:Oper} {a:Act} {K:Act→World→Prop} {Q:Exit→Act→World→Prop}
theorem wpRec (s x:Operand) (ho:o.op=.call { callee:=.builtin .append,args:=#[s,x],argTypes:=#[103,103] })
  (base:Nat) (A:Option Addr) (n c:Nat) (xs:List R.Rc) (hs:a.eval s=.slice A n c) (hown:Row w base 111 4 A n c (dH xs))
  (S:Option Addr) (m d:Nat) (news:List R.Rc) (hx:a.eval x=.slice S m d) (hr:Rd w S m 4 (dH news)) (h63:n+m≤2199023255552) (hbase:base≤w.heap.size)
  (h:∀ A' c' w',Row w' base 111 4 A' (n+m) c' (dH (xs++news))→App w w' A c A' c'→K (a.put o.dst (.slice A' (n+m) c')) w'):o.wp Tryz.prog a w K Q:=by
 obtain⟨i0,hi0,hz0,hz1,hz2⟩:=info_parts Tryz.infoRec
 exact pW w s x _ ho _ i0 _ 4 40 Tryz.underlying103 hi0 hz0 hz1 hz2 rfl (by omega) base A n c _ hs hown S m d _ hx hr (xJ news) (by simp only[maxLen];omega) (by omega) hbase (by rw[← mX];exact h)
theorem aR0 (hgd:o.guard=none) (s x:Operand) (ho:o.op=.call { callee:=.builtin .append,args:=#[s,x],argTypes:=#[103,103] })
  (base:Nat) (A:Option Addr) (n c:Nat) (xs:List R.Rc) (hs:a.eval s=.slice A n c) (hown:Row w base 111 4 A n c (dH xs))
  (S:Option Addr) (m d:Nat) (news:List R.Rc) (hx:a.eval x=.slice S m d) (hr:Rd w S m 4 (dH news)) (h63:n+m≤2199023255552) (hbase:base≤w.heap.size)
  (h:∀ A' c' w',Row w' base 111 4 A' (n+m) c' (dH (xs++news))→App w w' A c A' c'→wpList Tryz.prog ops Q rest (a.put o.dst (.slice A' (n+m) c')) w'):wpList Tryz.prog ops Q (o::rest) a w :=
 wpList_plain hgd fun _ hK=>wpRec w s x ho base A n c xs hs hown S m d news hx hr h63 hbase fun A' c' w' h2 h3=>hK _ _ (h A' c' w' h2 h3)
end
theorem mF {F F':Nat→Prop} {w w':World} {A:Option Addr} {n size:Nat} {xs:List Value} (h:aO F w F' w') (hx:Rd w A n size xs) (hA:0 < n→∀ a,A=some a→¬ F a.block):0 < n→∀ a,A=some a→¬ F' a.block:=by
 intro hn a ha hf
 obtain⟨b,o,e,hlt,_⟩:=hx.2 hn
 rw[ha]at e
 cases e
 rcases h.foot _ hf with h1 | h1
 ·exact hA hn _ ha h1
 ·dsimp only at h1
  omega
theorem Fit.roomy {d:D.Dsk} {m:Nat} (hf:D.Fit m d):0≤d.room∧d.room≤1152921504606846976:=⟨hf.room.1,by have:=hf.room.2;omega⟩
theorem mO (B:Nat) (M:DM) (s:D.Dsk) (nm:ByteArray) (w:World) (h:dD B M s w) (hs:s.Sml) (ok:s.Ok) (hn:nm.size≤1099511627776):Calls Tryz.prog 95 #[.pointer (some ⟨M.d,0,none⟩),.string nm] w (bF B M s w (s.sync nm)) :=
 (aL1 B M s nm w h hs ok hn).mono fun _ _ h=>⟨h.1,M,h.2.1,h.2.2⟩
theorem count_any (B l:Nat) (M:DM) (d:D.Dsk) (count:Nat) (w:World) (h:jX B l M d count w):Calls Tryz.prog 68 #[.pointer (some ⟨l,0,none⟩)] w (vX w (.int .i64 count)):=by
 obtain⟨y0,y1⟩:=h.cells
 clear h y0
 go_enter Tryz.func68,Tryz.ntmps68
 go_wp2
 go_ret
 exact⟨rfl,rfl⟩
theorem zS (B:Nat) (X:SM) (s:S.Sto) (w:World) (h:eU B X s w) (hu:D.Up s.tab) (hl:s.tab.length≤1073741824) :
  Calls Tryz.prog 52 #[.pointer (some ⟨X.st,0,none⟩)] w (eP w 9 1 s.ids.length (aF s.ids)):=by
 have HD:=aH h
 have HKE:=aH (fun u=>aJS (some X.tb) u)
 obtain⟨y0,y1,y2,y3⟩:=h.cells
 have hb2:Below w.heap.size w (w.alloc (.cells #[.map (some X.tb)] 106)):=(zB _ _).alloc (zA _) _
 have HSO:=aH (aDB (fun n=>n) s.tab w.heap.size X.tb (w.alloc (.cells #[.map (some X.tb)] 106)) (by simp) ((Blk.new w _ _).cell 0 rfl) (h.below hb2).tab hu hl)
 have HB2:=aH hb2
 clear h y0 y1 y3 hb2
 go_enter Tryz.func52,Tryz.ntmps52
 go_wp2_with fail
 refine (HKE.out _).mono ?_
 rintro e w2 ⟨rfl,rfl⟩
 clear y2 HKE
 go_wp2_with fail
 refine HSO.out.mono ?_
 rintro e w3 ⟨A,c,rfl,hr,hb3⟩
 have HR:=aH (hr.mono HB2.out.size)
 have HB3:=aH (aA HB2.out.size HB2.out hb3)
 clear hr hb3 HSO HB2
 go_wp2
 go_ret
 exact⟨A,c,by rw[show s.ids.length=s.tab.length from List.length_map _];rfl,HR.out,HB3.out⟩
theorem S.records_take (t:D.NM) (k:Nat) (h:k < t.length):S.records (t.take (k+1))=S.records (t.take k)++[⟨0,1,(t[k]'h).2,(t[k]'h).1⟩]:=by
 unfold S.records
 rw[bI h,List.map_append]
 rfl
theorem aDP (B:Nat) (X:SM) (s:S.Sto) (w:World) (h:eU B X s w) (hu:D.Up s.tab) (hl:s.tab.length≤1073741824) (hz:∀ p∈s.tab,p.1.size≤1099511627776) :
  Calls Tryz.prog 56 #[.pointer (some ⟨X.st,0,none⟩)] w (eP w 111 4 (S.records s.tab).length (dH (S.records s.tab))):=by
 have HD:=aH h
 have HI:=aH (zS B X s w h hu hl)
 obtain⟨t,ht⟩:∃ t,t=s.tab:=⟨_,rfl⟩
 have HT:=aH ht
 have hil:s.ids.length=t.length:=by unfold S.Sto.ids;rw[List.length_map,ht]
 rw[hil]at HI
 have HRL:Hid ((S.records t).length=t.length):=aH (by unfold S.records;rw[List.length_map])
 rw[← ht]at hu hl hz ⊢
 rw[HRL.out]
 have HU:=aH hu
 have HZ:=aH hz
 have HIL:=aH hil
 clear h ht hu hz hil
 go_enter Tryz.func56,Tryz.ntmps56
 go_wp2_with fail
 refine HI.out.mono ?_
 rintro e w1 ⟨A1,c1,rfl,hr1,hb1⟩
 have HR1:=aH hr1.rd
 have HB1:=aH hb1
 clear hr1 hb1 HI
 go_wp2
 go_loopw [3,9] (fun out i wr=>∃ (k:Nat) (A2:Option Addr) (c2:Nat),k≤t.length∧i=.int .i64 k∧out=.slice A2 k c2∧Row wr w1.heap.size 111 4 A2 k c2 (dH (S.records (t.take k)))∧Below w1.heap.size w1 wr) (fun _ i _=>t.length - (intOf i).toNat)
 case atStart=>exact⟨0,none,0,zF _,rfl,rfl,Row.none_ _ _ _ _,zB _ _⟩
 case round =>
  obtain⟨k,A2,c2,hk,rfl,rfl,hrow,hb1e⟩:=hrel
  have HROW:=aH hrow
  have HBE:=aH (aA HB1.out.size HB1.out hb1e)
  have HB1E:=aH hb1e
  clear hrow hb1e
  by_cases hlt:k < t.length
  ·have hki:k < s.ids.length:=by rw[HIL.out];exact hlt
   obtain⟨b,o,rfl,hb,hc⟩:=(HR1.out.below HB1E.out).str hlt HIL.out
   have HTK:=aH (S.records_take t k hlt)
   have hid_:s.ids[k]'hki=(t[k]'hlt).1:=by
    have key:∀ (l:List ByteArray),l=t.map (·.1)→∀ h:k < l.length,l[k]'h=(t[k]'hlt).1:=by
     rintro l rfl h
     simp
    exact key s.ids (by rw[HT.out];rfl) hki
   have hfd:=D.dM HU.out (List.getElem_mem hlt)
   have hsz:=HZ.out _ (List.getElem_mem hlt)
   rw[hid_]at hc
   generalize t[k]'hlt=p at *
   obtain⟨nm,no⟩:=p
   dsimp only at hfd hsz hc HTK
   have hlk:=aL0 ((HD.out.below HBE.out).tab) nm (by simp only[maxLen];omega)
   rw[← HT.out,hfd]at hlk
   obtain⟨y0,y1,y2,y3⟩:=(HD.out.below HBE.out).cells
   simp only[Option.getD_some]at hlk
   clear y0 y1 y3 hid_ hki hfd
   have HNEW:=aH (Rd.newRow wr 111 #[.int .i64 0,.int .i64 1,.int .i64 no,.string nm] 1 4 rfl)
   have hbz:w1.heap.size≤(wr.alloc (.cells #[.int .i64 0,.int .i64 1,.int .i64 no,.string nm] 111)).heap.size:=by rw[bJ];have:=HB1E.out.size;omega
   go_wp2_with (at_builtin;refine aR0 _ rfl _ _ rfl w1.heap.size A2 k c2 (S.records (t.take k)) rfl (HROW.out.alloc _) _ 1 1 [⟨0,1,no,nm⟩] rfl HNEW.out (by omega) hbz ?_;intro A3 c3 w3 hr3 ha3;have HR3:=aH hr3;have HBA:=aH (ha3.below (HROW.out.alloc _) hbz);clear hr3 ha3)
   go_roundw
   case rel =>
    exact⟨k+1,A3,c3,by omega,by go_num,rfl,by rw[HTK.out];exact HR3.out,(HB1E.out.alloc HB1E.out.size _).trans HBA.out⟩
   case measure=>simp [intOf];omega
  ·have hkt:k=t.length:=by omega
   have HROW2:Hid (Row wr w.heap.size 111 4 A2 k c2 (dH (S.records t))):=aH (by
    have:=HROW.out.mono HB1.out.size
    rwa [List.take_of_length_le (by omega)]at this)
   clear HROW
   subst hkt
   go_wp2
   go_ret
   exact⟨A2,c2,rfl,HROW2.out,HBE.out⟩
theorem aFW {B l n c base:Nat} {M:DM} {d:D.Dsk} {count:Nat} {w w1:World} {A:Option Addr} {bs:List UInt8} (h:jX B l M d count w) (hr:bZ w1 base A n c bs) (hb:w.heap.size≤base):0 < n→∀ a,A=some a→¬ aZ l M d a.block:=by
 intro hn a ha
 have h1:=hr.2.1
 rcases hr.2.2 with h2 | ⟨g,h2,hB,_⟩
 ·omega
 ·rw[ha]at h2
  cases h2
  rintro (hf | hf)
  ·have:=h.disk.lt hf
   dsimp only at this
   omega
  ·have:=h.blk.lt
   dsimp only at hf
   omega
theorem aCD (r:R.Rc) (h:r.id.size≤2147483648):(R.enc r).length≤2147483663:=by
 by_cases hc:R.code r=0
 ·rw[R.aAB r hc];omega
 ·rw[R.aKG hc];exact zF _
theorem dL:S.bT.size≤1099511627776∧S.dE.size≤1099511627776:=⟨by show 3≤_;decide,by show 7≤_;decide⟩
section
variable {B l:Nat} {M:DM} {d:D.Dsk} {count m:Nat} {w:World}
theorem bF.log {x:D.Dsk × Int} {e:Ending} {w':World} (h:jX B l M d count w) (hr:bF B M d w x e w'):lL B l M d w (x.1,count,x.2) e w':=by
 obtain⟨he,M',hd,hs⟩:=hr
 obtain⟨h1,h2⟩:=h.step hd hs
 exact⟨he,M',h1,h2,hs.same⟩
end
theorem add_any (B l:Nat) (M:DM) (d:D.Dsk) (count m:Nat) (op no:Int) (id:ByteArray) (w:World) (h:jX B l M d count w) (hf:D.Fit m d) (hm:m≤134217728) (hc:count≤1099511627776) (hi:id.size≤2147483648) :
  Calls Tryz.prog 69 #[.pointer (some ⟨l,0,none⟩),.int .i64 op,.int .i64 no,.string id] w (lL B l M d w (S.add d count op no id)):=by
 have HD:=aH h
 have HF:=aH hf
 have HE:=aH (tJ ⟨count,op,no,id⟩ w hi)
 have hes:=aCD ⟨count,op,no,id⟩ hi
 obtain⟨y0,y1⟩:=h.cells
 obtain⟨G,hG⟩:∃ G,S.add d count op no id=G:=⟨_,rfl⟩
 have HG:Hid (G=if R.code ⟨count,op,no,id⟩≠0 then (d,count,R.code ⟨count,op,no,id⟩)
  else if (d.append S.bT (R.enc ⟨count,op,no,id⟩)).2≠0 then ((d.append S.bT (R.enc ⟨count,op,no,id⟩)).1,count,(d.append S.bT (R.enc ⟨count,op,no,id⟩)).2)
  else (((d.append S.bT (R.enc ⟨count,op,no,id⟩)).1.sync S.bT).1,count+1,((d.append S.bT (R.enc ⟨count,op,no,id⟩)).1.sync S.bT).2)):=aH hG.symm
 rw[hG]
 dsimp only at HE
 generalize R.enc ⟨count,op,no,id⟩=bs at *
 generalize R.code ⟨count,op,no,id⟩=code at *
 have HA:=aH (fun (A:Option Addr) (c:Nat) (u:World) (hb:Below w.heap.size w u) (hr:bZ u w.heap.size A bs.length c bs)=>pR B M d S.bT A bs.length c bs u (h.below hb).disk (hf.sml (by omega)) hf.ok (hf.used (by omega)) (Fit.roomy hf) dL.1 rfl (by omega) hr.rd (fun hn a ha hfo=>aFW h hr (zA _) hn a ha (.inl hfo)))
 have HF1:=aH (hf.append S.bT bs)
 clear h hf hG
 go_enter Tryz.func69,Tryz.ntmps69
 go_wp2_with fail
 refine HE.out.mono ?_
 rintro e w1 ⟨A1,c1,rfl,hr1,hb1⟩
 have HD1:=aH (HD.out.below hb1)
 have HB1:=aH hb1
 have HA1:=aH (HA.out A1 c1 w1 hb1 hr1)
 clear hb1 hr1 HE HA y0 y1 HD
 obtain⟨y0,y1⟩:=HD1.out.cells
 by_cases h0:code=0
 rotate_left
 ·rw[if_pos h0]at HG
  have h0b:(code != 0)=true:=by simpa using h0
  go_wp2
  go_ret
  exact⟨by rw[HG.out]<;>rfl,M,by rw[HG.out];exact HD1.out,by rw[HG.out];exact aO.below HB1.out _,rfl⟩
 subst h0
 rw[if_neg (by simp)]at HG
 go_wp2_with fail
 refine HA1.out.mono ?_
 rintro e w2 ⟨rfl,M2,hd2,hs2⟩
 obtain⟨hl2,hw2⟩:=HD1.out.step hd2 hs2
 have HD2:=aH hl2
 have HW2:=aH ((aO.below HB1.out (aZ l M d)).trans hw2)
 have HM2:=aH hs2.same
 obtain⟨Y,hY⟩:∃ Y,d.append S.bT bs=Y:=⟨_,rfl⟩
 rw[hY]at HD2 HW2 HG HF1 ⊢
 obtain⟨d2,e2⟩:=Y
 dsimp only at HD2 HW2 HG HF1 ⊢
 clear hd2 hs2 hl2 hw2 HA1 HB1 HD1 y0 y1 hY
 obtain⟨y0,y1⟩:=HD2.out.cells
 have f1:=HD2.out.blk.free 1
 by_cases h2:e2=0
 rotate_left
 ·rw[if_pos h2]at HG
  have h2b:(e2 != 0)=true:=by simpa using h2
  go_wp2
  go_ret
  exact⟨by rw[HG.out]<;>rfl,M2,by rw[HG.out];exact HD2.out,by rw[HG.out];exact HW2.out,HM2.out⟩
 subst h2
 rw[if_neg (by simp)]at HG
 obtain⟨hl3,hw3⟩:=HD2.out.counted (count+1)
 rw[show ((count+1:Nat):Int)=(count:Int)+1 by push_cast;rfl]at hl3 hw3
 have HD3:=aH hl3
 have HW3:=aH (HW2.out.trans hw3)
 have HSY:=aH (mO B M2 d2 S.bT _ hl3.disk (HF1.out.sml (by omega)) HF1.out.ok dL.1)
 obtain⟨z0,z1⟩:=hl3.cells
 clear hl3 hw3
 go_wp2_with fail
 refine HSY.out.mono ?_
 rintro e w4 hr4
 obtain⟨rfl,M4,hd4,hw4,hm4⟩:=bF.log HD3.out hr4
 have HD4:=aH hd4
 have HW4:=aH (HW3.out.trans hw4)
 have HM4:=aH (hm4.trans HM2.out)
 clear hr4 hd4 hw4 hm4 HSY z0 z1 y0 y1 f1
 go_wp2
 go_ret
 exact⟨by rw[HG.out]<;>rfl,M4,by rw[HG.out];exact HD4.out,by rw[HG.out];exact HW4.out,HM4.out⟩
section
variable (B l:Nat) (M:DM) (d:D.Dsk) (count m bx:Nat) (w:World)
theorem aPH (h:jX B l M d count w) (hf:D.Fit m d) (hm:m≤134217728) (hb:Blk w bx #[.pointer (some ⟨l,0,none⟩)] 102) :
  Calls Tryz.prog 103 #[.pointer (some ⟨bx,0,none⟩)] w (lL B l M d w ((d.create S.dE).1,count,(d.create S.dE).2)):=by
 have HC:=aH (oZ B M d S.dE w h.disk (hf.sml (by omega)) hf.ok dL.2)
 have HD:=aH h
 obtain⟨y0,y1⟩:=h.cells
 have z0:=hb.cells1
 clear h hb y1
 go_enter Tryz.func103,Tryz.ntmps103
 go_wp2_with fail
 refine HC.out.mono ?_
 rintro e w4 hr4
 have h4:=bF.log HD.out hr4
 obtain⟨rfl,h5⟩:=h4
 clear hr4 HC y0 z0
 go_wp2
 go_ret
 exact⟨rfl,h5⟩
theorem aPG (by_:Nat) (A:Option Addr) (n c:Nat) (bs:List UInt8) (h:jX B l M d count w) (hf:D.Fit m d) (hm:m≤134217728) (hb:Blk w bx #[.pointer (some ⟨l,0,none⟩)] 102) (hy:Blk w by_ #[.slice A n c] 39) (hl:bs.length=n) (hln:n≤1099511627776) (hx:Rd w A n 1 (aB bs)) (hA:0 < n→∀ a,A=some a→¬ aZ l M d a.block) :
  Calls Tryz.prog 104 #[.pointer (some ⟨bx,0,none⟩),.pointer (some ⟨by_,0,none⟩)] w (lL B l M d w ((d.append S.dE bs).1,count,(d.append S.dE bs).2)):=by
 have HC:=aH (fun (u:World) (hu:Below w.heap.size w u)=>pR B M d S.dE A n c bs u (h.below hu).disk (hf.sml (by omega)) hf.ok (hf.used (by omega)) (Fit.roomy hf) dL.2 hl hln (hx.below hu) (fun hn a ha hfo=>hA hn a ha (.inl hfo)))
 have HD:=aH h
 clear h hx hA
 go_enter Tryz.func104,Tryz.ntmps104
 go_upto_region 1 with fail
 have hS0:Below w.heap.size w w.drew:=(zB _ _).drew
 have HZB:=aH hb
 have HZY:=aH hy
 clear hb hy
 refine wp_region_noPanic ?_
 refine HT.begin (n:=5) (S:=(fun u=>Below w.heap.size w u)) (by kernel_rfl) hS0 ?_
 generalize w.drew=wd at *
 refine HT.take 0 (.pointer (some ⟨l,0,none⟩)) rfl (by kernel_rfl) (fun _ _ _ h=>h) (Or.inl ⟨by rfl,?_⟩) ?_
 ·intro u hu
  have z0:=(HZB.out.below hu).cells1
  go_simp
 refine HT.take 1 (.pointer (some ⟨l,0,none⟩)) rfl (by kernel_rfl) (fun _ _ _ h=>h) (Or.inl ⟨by rfl,?_⟩) ?_
 ·intro u hu
  go_simp
 refine HT.take 2 (.pointer (some ⟨l,0,none⟩)) rfl (by kernel_rfl) (fun _ _ _ h=>h) (Or.inl ⟨by rfl,?_⟩) ?_
 ·intro u hu
  go_simp
 refine HT.take 3 (.pointer (some ⟨M.d,0,none⟩)) rfl (by kernel_rfl) (fun _ _ _ h=>h) (Or.inl ⟨by rfl,?_⟩) ?_
 ·intro u hu
  obtain⟨y0,y1⟩:=(HD.out.below hu).cells
  go_simp
 refine HT.take 4 (.slice A n c) rfl (by kernel_rfl) (fun _ _ _ h=>h) (Or.inl ⟨by rfl,?_⟩) (?_:HT _ _ _ _ _ _ _ ⟨#[.pointer (some ⟨bx,0,none⟩),.pointer (some ⟨by_,0,none⟩),_,.pointer (some ⟨l,0,none⟩),.pointer (some ⟨l,0,none⟩),.pointer (some ⟨l,0,none⟩),.pointer (some ⟨M.d,0,none⟩),.slice A n c,_],[]⟩ _)
 ·intro u hu
  have z1:=(HZY.out.below hu).cells1
  go_simp
 refine HT.tail _ rfl rfl (by kernel_rfl) (fun hS=>?_)
 have hbd:=hS
 clear hS hS0 HZB HZY
 have HD1:=aH (HD.out.below hbd)
 have HC1:=aH (HC.out _ hbd)
 have HW1:Hid (aO (aZ l M d) w (aZ l M d) _):=aH (aO.below hbd _)
 clear HC HD hbd
 go_wp2_with fail
 refine HC1.out.mono ?_
 rintro e w4 hr4
 obtain⟨rfl,M4,h5,h6,h7⟩:=bF.log HD1.out hr4
 have h8:=HW1.out.trans h6
 clear hr4 HC1 h6
 go_wp2
 refine NoPanic.normal ?_
 go_wp2
 go_ret
 exact⟨rfl,M4,h5,h8,h7⟩
theorem aPF (h:jX B l M d count w) (hf:D.Fit m d) (hm:m≤134217728) (hb:Blk w bx #[.pointer (some ⟨l,0,none⟩)] 102) :
  Calls Tryz.prog 106 #[.pointer (some ⟨bx,0,none⟩)] w (lL B l M d w ((d.sync S.dE).1,count,(d.sync S.dE).2)):=by
 have HC:=aH (mO B M d S.dE w h.disk (hf.sml (by omega)) hf.ok dL.2)
 have HD:=aH h
 obtain⟨y0,y1⟩:=h.cells
 have z0:=hb.cells1
 clear h hb y1
 go_enter Tryz.func106,Tryz.ntmps106
 go_wp2_with fail
 refine HC.out.mono ?_
 rintro e w4 hr4
 have h4:=bF.log HD.out hr4
 obtain⟨rfl,h5⟩:=h4
 clear hr4 HC y0 z0
 go_wp2
 go_ret
 exact⟨rfl,h5⟩
theorem aPE (h:jX B l M d count w) (hf:D.Fit m d) (hm:m≤134217728) (hb:Blk w bx #[.pointer (some ⟨l,0,none⟩)] 102) :
  Calls Tryz.prog 107 #[.pointer (some ⟨bx,0,none⟩)] w (lL B l M d w ((d.rename S.dE S.bT).1,count,(d.rename S.dE S.bT).2)):=by
 have HC:=aH (aGP B M d S.dE S.bT w h.disk (hf.sml (by omega)) dL.2 dL.1)
 have HD:=aH h
 obtain⟨y0,y1⟩:=h.cells
 have z0:=hb.cells1
 clear h hb y1
 go_enter Tryz.func107,Tryz.ntmps107
 go_wp2_with fail
 refine HC.out.mono ?_
 rintro e w4 hr4
 have h4:=bF.log HD.out hr4
 obtain⟨rfl,h5⟩:=h4
 clear hr4 HC y0 z0
 go_wp2
 go_ret
 exact⟨rfl,h5⟩
end
theorem R.encAll_at {list:List R.Rc} {k:Nat} (h:k < list.length) (bs:List UInt8):R.bH (list.drop k) k bs=if R.code { list[k] with seq:=k }≠0 then ([],R.code { list[k] with seq:=k }) else R.bH (list.drop (k+1)) (k+1) (bs++R.enc { list[k] with seq:=k }):=by
 rw[List.drop_eq_getElem_cons h]
 rfl
theorem S.steps_le:∀ (ops:List (D.Dsk→D.Dsk × Int)) (d:D.Dsk),(S.steps d ops).2.1≤ops.length
 | [],_=>zA _
 | f::r,d=>by
  have:=S.steps_le r (f d).1
  unfold S.steps
  split
  ·exact zF _
  ·rw[List.length_cons]
   exact Nat.succ_le_succ this
theorem aDI (B l:Nat) (M:DM) (d:D.Dsk) (count m:Nat) (list:List R.Rc) (A:Option Addr) (n c:Nat) (w:World) (h:jX B l M d count w) (hf:D.Fit m d) (hm:m≤134217000)
  (hl:list.length=n) (hn:n≤524288) (hi:∀ r∈list,r.id.size≤1048576) (hx:Rd w A n 4 (dH list)) :
  Calls Tryz.prog 55 #[.pointer (some ⟨l,0,none⟩),.slice A n c] w (lL B l M d w (S.rewrite d count list)):=by
 have HD:=aH h
 have HF:=aH hf
 have HX:=aH hx
 have HL:=aH hl
 have HI:=aH hi
 have HE:=aH (fun (r:R.Rc) (u:World) (hr:r.id.size≤1048576)=>tJ r u (by omega))
 obtain⟨G,hG⟩:∃ G,S.rewrite d count list=G:=⟨_,rfl⟩
 have HG:Hid (G=if (R.bH list 0 []).2≠0 then (d,count,(R.bH list 0 []).2)
  else if (S.steps d (S.moves (R.bH list 0 []).1)).2.1=4 then ((S.steps d (S.moves (R.bH list 0 []).1)).1.syncNames.1,list.length,(S.steps d (S.moves (R.bH list 0 []).1)).1.syncNames.2)
  else if (S.steps d (S.moves (R.bH list 0 []).1)).2.1=0 then ((S.steps d (S.moves (R.bH list 0 []).1)).1,count,(S.steps d (S.moves (R.bH list 0 []).1)).2.2)
  else (((S.steps d (S.moves (R.bH list 0 []).1)).1.remove S.dE).1,count,(S.steps d (S.moves (R.bH list 0 []).1)).2.2)):=aH hG.symm
 rw[hG]
 obtain⟨W1,hW1⟩:∃ W1,(w.alloc (.cells #[.pointer (some ⟨l,0,none⟩)] 102)).alloc (.cells #[.slice none 0 0] 39)=W1:=⟨_,rfl⟩
 have hz1:W1.heap.size=w.heap.size+2:=by rw[← hW1];simp
 have hb1:Below w.heap.size w W1:=by rw[← hW1];exact ((zB _ _).alloc (zA _) _).alloc (by simp) _
 have hbx:Blk W1 w.heap.size #[.pointer (some ⟨l,0,none⟩)] 102:=by rw[← hW1];exact (Blk.new w _ _).alloc _
 have hby:Blk W1 (w.heap.size+1) #[.slice none 0 0] 39:=by
  rw[← hW1]
  have:=Blk.new (w.alloc (.cells #[.pointer (some ⟨l,0,none⟩)] 102)) #[.slice none 0 0] 39
  simpa using this
 have HB1:=aH hb1
 have HBX:=aH hbx
 have HBY:=aH hby
 clear h hf hx hl hi hG hb1 hbx hby
 go_enter Tryz.func55,Tryz.ntmps55
 go_upto_region 3 with fail
 obtain⟨ENC,hENC⟩:∃ ENC,R.bH list 0 []=ENC:=⟨_,rfl⟩
 have HENC:=aH hENC
 have HZ1:=aH hz1
 clear hW1 hz1
 rw[hENC]at HG
 clear hENC
 go_loopw [14] (fun i wr=>∃ (k:Nat) (A2:Option Addr) (c2:Nat) (bs:List UInt8),k≤n∧i=.int .i64 k∧R.bH (list.drop k) k bs=ENC∧bs.length≤k * 2097152∧bZ wr W1.heap.size A2 bs.length c2 bs∧Blk wr w.heap.size #[.pointer (some ⟨l,0,none⟩)] 102∧Blk wr (w.heap.size+1) #[.slice A2 bs.length c2] 39∧Below w.heap.size w wr∧W1.heap.size≤wr.heap.size) (fun i _=>n - (intOf i).toNat)
 case atStart=>exact⟨0,none,0,[],zF _,rfl,HENC.out,zF _,bZ.none_ _ _,HBX.out,HBY.out,HB1.out,zA _⟩
 case round =>
  obtain⟨k,A2,c2,bs,hk,rfl,henc,hbl,hrow,hbx,hby,hbe,hze⟩:=hrel
  have HEN:=aH henc
  have HROW:=aH hrow
  have HBX2:=aH hbx
  have HBY2:=aH hby
  have HBE:=aH hbe
  have HZE:=aH hze
  clear henc hrow hbx hby hbe hze HBX HBY HB1 HENC
  by_cases hlt:k < n
  ·have hkl:k < list.length:=by rw[HL.out];exact hlt
   obtain⟨b,o,rfl,hblt,x0,x1,x2,x3⟩:=aPM (HX.out.below HBE.out) hlt HL.out
   have HST:Hid (ENC=_):=aH (HEN.out.symm.trans (R.encAll_at hkl bs))
   have hisz:=HI.out _ (List.getElem_mem hkl)
   generalize list[k]'hkl=r at *
   have HE1:=aH (fun u=>HE.out { r with seq:=(k:Int) } u hisz)
   dsimp only at HE1
   have hln:=aCD { r with seq:=(k:Int) } (bD hisz (by decide))
   clear hkl hblt HEN
   go_wp2_with fail
   clear x0 x1 x2 x3
   refine (HE1.out _).mono ?_
   rintro e w2 ⟨A3,c3,rfl,hr3,hb3⟩
   have hb4:Below wr.heap.size wr w2:=aA (by rw[bJ];omega) ((zB _ _).alloc (zA _) _) hb3
   have HBX3:=aH (HBX2.out.below hb4)
   have HBY3:=aH (HBY2.out.below hb4)
   have HROW3:=aH (HROW.out.below hb4)
   have HB3:=aH (aA HBE.out.size HBE.out hb4)
   have HZ3:Hid (W1.heap.size≤w2.heap.size):=aH (bD HZE.out hb4.size)
   have HR3:=aH hr3.rd
   clear hr3 hb3 hb4 HE1 HBX2 HBY2 HROW HBE HZE
   by_cases hcd:R.code { r with seq:=(k:Int) }=0
   rotate_left
   ·have hcb:(R.code { r with seq:=(k:Int) } != 0)=true:=by simpa using hcd
    have HEND:Hid (ENC=([],R.code { r with seq:=(k:Int) })):=aH (by rw[HST.out,if_pos hcd])
    have HGE:Hid (G=(d,count,R.code { r with seq:=(k:Int) })):=aH (by rw[HG.out,HEND.out,if_pos hcd])
    clear HST HG HEND hcd
    generalize R.code { r with seq:=(k:Int) }=code at *
    go_wp2
    go_ret
    exact⟨by rw[HGE.out]<;>rfl,M,by rw[HGE.out];exact HD.out.below HB3.out,by rw[HGE.out];exact aO.below HB3.out _,rfl⟩
   have HST2:Hid (ENC=R.bH (list.drop (k+1)) (k+1) (bs++R.enc { r with seq:=(k:Int) })):=aH (by rw[HST.out,if_neg (by simpa using hcd)])
   have hln2:(R.enc { r with seq:=(k:Int) }).length≤2097152:=by rw[R.aAB _ hcd];show r.id.size+15≤_;omega
   rw[hcd]
   clear HST hcd hln
   generalize R.enc { r with seq:=(k:Int) }=new at *
   have y0:=HBY3.out.cells1
   have hbn:bs.length+new.length≤(k+1) * 2097152:=by omega
   go_wp2_with (at_builtin;refine appC _ rfl _ _ rfl W1.heap.size A2 bs.length c2 bs rfl HROW3.out A3 new.length c3 new rfl HR3.out (by omega) HZ3.out ?_;intro A4 c4 w3 hr4 ha4;have hne4:∀ q,ownB A2 c2=some q→q≠w.heap.size+1:=fun q hq=>(by have:=(HROW3.out.lt q hq).1;have:=HZ1.out;omega);have hby4:=HBY3.out.app ha4 hne4;have z1:=hby4.cells1;have f1:=hby4.free 0;have HR4:=aH hr4;have HA4:=aH ha4;have HBY4:=aH hby4;clear hr4 ha4 hby4 hne4)
   have hg5:=aT w3 (w.heap.size+1) 0 (.slice A4 (bs.length+new.length:Nat) c4)
   have hw5:aO (fun q=>q=w.heap.size+1) w3 (fun q=>q=w.heap.size+1) (w3.setCell ⟨w.heap.size+1,0,none⟩ (.slice A4 (bs.length+new.length:Nat) c4)):=aO.grown hg5 (fun q e=>(by simpa using e.symm)) (fun q h=>.inl h)
   have hb4:=HA4.out.belowC HROW3.out HZ3.out
   have hzb:w.heap.size+2=W1.heap.size:=HZ1.out.symm
   have HB5:=aH (aK (HB3.out.trans (hb4.mono (by omega))) (b:=w.heap.size+1) (by omega) 0 (.slice A4 (bs.length+new.length:Nat) c4))
   have HZ5:Hid (W1.heap.size≤(w3.setCell ⟨w.heap.size+1,0,none⟩ (.slice A4 (bs.length+new.length:Nat) c4)).heap.size):=aH (by rw[World.size_setCell];exact bD HZ3.out hb4.size)
   have HBX5:=aH (hw5.blk (HBX3.out.under hb4 (by omega)) (by omega))
   have HBY5:=aH (HBY4.out.set 0 (.slice A4 (bs.length+new.length:Nat) c4))
   have HR5:=aH (hw5.crow HR4.out (fun q hq e=>by have:=(HR4.out.lt q hq).1;omega))
   have hl5:(bs++new).length=bs.length+new.length:=bC
   clear hg5 hw5 hb4 HB3 HZ3 HBX3 HBY3 HROW3 HR3 HR4 HA4 HBY4 y0 hzb
   go_wp2
   go_roundw
   case rel=>exact⟨k+1,A4,c4,bs++new,by omega,by go_num,HST2.out.symm,by rw[hl5];omega,by rw[hl5];exact HR5.out,HBX5.out,by rw[hl5];exact HBY5.out,HB5.out,HZ5.out⟩
   case measure=>simp [intOf];omega
  ·have hkn:k=n:=by omega
   have HEND:Hid (ENC=(bs,0)):=aH (by
    rw[← HEN.out,List.drop_eq_nil_of_le (by have:=HL.out;omega)]
    rfl)
   have HG2:Hid (G=if (S.steps d (S.moves bs)).2.1=4 then ((S.steps d (S.moves bs)).1.syncNames.1,list.length,(S.steps d (S.moves bs)).1.syncNames.2)
    else if (S.steps d (S.moves bs)).2.1=0 then ((S.steps d (S.moves bs)).1,count,(S.steps d (S.moves bs)).2.2)
    else (((S.steps d (S.moves bs)).1.remove S.dE).1,count,(S.steps d (S.moves bs)).2.2)):=aH (by rw[HG.out,HEND.out,if_neg (by simp)])
   have hbn:bs.length≤1099511627776:=by omega
   have hbe2:Below w.heap.size w (wr.alloc (.cells #[.func (.func 103) #[] #[.pointer (some ⟨w.heap.size,0,none⟩)],.func (.func 104) #[] #[.pointer (some ⟨w.heap.size,0,none⟩),.pointer (some ⟨w.heap.size+1,0,none⟩)],.func (.func 106) #[] #[.pointer (some ⟨w.heap.size,0,none⟩)],.func (.func 107) #[] #[.pointer (some ⟨w.heap.size,0,none⟩)]] 157)):=HBE.out.alloc HBE.out.size _
   have HD2:=aH (HD.out.below hbe2)
   have HW2:Hid (aO (aZ l M d) w (aZ l M d) (wr.alloc (.cells #[.func (.func 103) #[] #[.pointer (some ⟨w.heap.size,0,none⟩)],.func (.func 104) #[] #[.pointer (some ⟨w.heap.size,0,none⟩),.pointer (some ⟨w.heap.size+1,0,none⟩)],.func (.func 106) #[] #[.pointer (some ⟨w.heap.size,0,none⟩)],.func (.func 107) #[] #[.pointer (some ⟨w.heap.size,0,none⟩)]] 157))):=aH (aO.below hbe2 _)
   have HBX3:=aH (HBX2.out.alloc (.cells #[.func (.func 103) #[] #[.pointer (some ⟨w.heap.size,0,none⟩)],.func (.func 104) #[] #[.pointer (some ⟨w.heap.size,0,none⟩),.pointer (some ⟨w.heap.size+1,0,none⟩)],.func (.func 106) #[] #[.pointer (some ⟨w.heap.size,0,none⟩)],.func (.func 107) #[] #[.pointer (some ⟨w.heap.size,0,none⟩)]] 157))
   have HBY3:=aH (HBY2.out.alloc (.cells #[.func (.func 103) #[] #[.pointer (some ⟨w.heap.size,0,none⟩)],.func (.func 104) #[] #[.pointer (some ⟨w.heap.size,0,none⟩),.pointer (some ⟨w.heap.size+1,0,none⟩)],.func (.func 106) #[] #[.pointer (some ⟨w.heap.size,0,none⟩)],.func (.func 107) #[] #[.pointer (some ⟨w.heap.size,0,none⟩)]] 157))
   have HR3:=aH ((HROW.out.alloc (.cells #[.func (.func 103) #[] #[.pointer (some ⟨w.heap.size,0,none⟩)],.func (.func 104) #[] #[.pointer (some ⟨w.heap.size,0,none⟩),.pointer (some ⟨w.heap.size+1,0,none⟩)],.func (.func 106) #[] #[.pointer (some ⟨w.heap.size,0,none⟩)],.func (.func 107) #[] #[.pointer (some ⟨w.heap.size,0,none⟩)]] 157)))
   have hx2:Rd (wr.alloc (.cells #[.func (.func 103) #[] #[.pointer (some ⟨w.heap.size,0,none⟩)],.func (.func 104) #[] #[.pointer (some ⟨w.heap.size,0,none⟩),.pointer (some ⟨w.heap.size+1,0,none⟩)],.func (.func 106) #[] #[.pointer (some ⟨w.heap.size,0,none⟩)],.func (.func 107) #[] #[.pointer (some ⟨w.heap.size,0,none⟩)]] 157)) (some ⟨wr.heap.size,0,none⟩) 4 1 [.func (.func 103) #[] #[.pointer (some ⟨w.heap.size,0,none⟩)],.func (.func 104) #[] #[.pointer (some ⟨w.heap.size,0,none⟩),.pointer (some ⟨w.heap.size+1,0,none⟩)],.func (.func 106) #[] #[.pointer (some ⟨w.heap.size,0,none⟩)],.func (.func 107) #[] #[.pointer (some ⟨w.heap.size,0,none⟩)]]:=Rd.newRow wr 157 #[.func (.func 103) #[] #[.pointer (some ⟨w.heap.size,0,none⟩)],.func (.func 104) #[] #[.pointer (some ⟨w.heap.size,0,none⟩),.pointer (some ⟨w.heap.size+1,0,none⟩)],.func (.func 106) #[] #[.pointer (some ⟨w.heap.size,0,none⟩)],.func (.func 107) #[] #[.pointer (some ⟨w.heap.size,0,none⟩)]] 4 1 rfl
   have hofx:∀ q,w.heap.size≤q→¬ aZ l M d q:=fun q hq hf=>by
    rcases hf with hf | hf
    ·have:=HD.out.disk.lt hf;omega
    ·have:=HD.out.blk.lt;omega
   have HOF:=aH hofx
   have hA2:∀ a,(some ⟨wr.heap.size,0,none⟩:Option Addr)=some a→¬ aZ l M d a.block:=fun a ha=>(by cases ha;exact hofx _ HBE.out.size)
   have hAr:0 < bs.length→∀ a,A2=some a→¬ aZ l M d a.block:=aFW HD.out HROW.out (by have:=HZ1.out;omega)
   have HFI:=aH (aHR B l M d count m w.heap.size (w.heap.size+1) (some ⟨wr.heap.size,0,none⟩) 4 (fun d=>d.create S.dE) (fun d=>d.append S.dE bs) (fun d=>d.sync S.dE) (fun d=>d.rename S.dE S.bT) (wr.alloc (.cells #[.func (.func 103) #[] #[.pointer (some ⟨w.heap.size,0,none⟩)],.func (.func 104) #[] #[.pointer (some ⟨w.heap.size,0,none⟩),.pointer (some ⟨w.heap.size+1,0,none⟩)],.func (.func 106) #[] #[.pointer (some ⟨w.heap.size,0,none⟩)],.func (.func 107) #[] #[.pointer (some ⟨w.heap.size,0,none⟩)]] 157)) HD2.out HF.out
    (fun _ _ h=>h.create _) (fun _ _ h=>h.append _ _) (fun _ _ h=>h.sync _) (fun _ _ h=>h.rename _ _) hx2 hA2
    (fun M1 d1 u hl hw hm hf=>aPH B l M1 d1 count (m+0) w.heap.size u hl hf (by omega) (hw.blk HBX3.out (HOF.out _ (zA _))))
    (fun M1 d1 u hl hw hm hf=>aPG B l M1 d1 count (m+1) w.heap.size u (w.heap.size+1) A2 bs.length c2 bs hl hf (by omega) (hw.blk HBX3.out (HOF.out _ (zA _))) (hw.blk HBY3.out (HOF.out _ (Nat.le_succ _))) rfl hbn (hw.rd HR3.out.rd hAr) (mF hw HR3.out.rd hAr))
    (fun M1 d1 u hl hw hm hf=>aPF B l M1 d1 count (m+2) w.heap.size u hl hf (by omega) (hw.blk HBX3.out (HOF.out _ (zA _))))
    (fun M1 d1 u hl hw hm hf=>aPE B l M1 d1 count (m+3) w.heap.size u hl hf (by omega) (hw.blk HBX3.out (HOF.out _ (zA _)))))
   clear hx2 hA2 hAr hofx hbe2 HROW HBX2 HBY2 HEN HEND HG HX HE HI
   go_wp2_with fail
   refine HFI.out.mono ?_
   rintro e w5 ⟨rfl,M5,hl5,hw5,hm5⟩
   have hmv:S.moves bs=[fun d=>d.create S.dE,fun d=>d.append S.dE bs,fun d=>d.sync S.dE,fun d=>d.rename S.dE S.bT]:=rfl
   have hft:=S.gK (S.moves bs) (S.aBW bs) HF.out
   have hle:=S.steps_le (S.moves bs) d
   rw[hmv]at HG2 hft hle
   have HBX5:=aH (hw5.blk HBX3.out (HOF.out _ (zA _)))
   have HD5:=aH hl5
   have HW5:=aH (HW2.out.trans hw5)
   have HM5:=aH hm5
   have HFT:=aH hft
   clear hl5 hw5 hm5 hmv hft HFI HD2 HW2 HBX3 HBY3 HR3 HOF
   generalize S.steps d [fun d=>d.create S.dE,fun d=>d.append S.dE bs,fun d=>d.sync S.dE,fun d=>d.rename S.dE S.bT]=X5 at *
   obtain⟨d5,kk,e5⟩:=X5
   dsimp only at HG2 hle HD5 HW5 HFT ⊢
   simp only[List.length_cons,List.length_nil]at hle HFT
   have z0:=HBX5.out.cells1
   obtain⟨y0,y1⟩:=HD5.out.cells
   have HLN:=aH HL.out
   obtain rfl | rfl | rfl | rfl | rfl:kk=0∨kk=1∨kk=2∨kk=3∨kk=4:=by omega
   ·rw[if_neg (by decide),if_pos rfl]at HG2
    go_wp2
    go_ret
    exact⟨by rw[HG2.out]<;>rfl,M5,by rw[HG2.out];exact HD5.out,by rw[HG2.out];exact HW5.out,HM5.out⟩
   iterate 3
    ·rw[if_neg (by decide),if_neg (by decide)]at HG2
     have HRM:=aH (kP B M5 d5 S.dE w5 HD5.out.disk (HFT.out.sml (by omega)) dL.2)
     go_wp2_with fail
     refine HRM.out.mono ?_
     rintro e w6 hr6
     obtain⟨rfl,M6,h6,hw6,hm6⟩:=bF.log HD5.out hr6
     have HD6:=aH h6
     have HW6:=aH (HW5.out.trans hw6)
     have HM6:=aH (hm6.trans HM5.out)
     clear hr6 h6 hw6 hm6 HRM y0 y1 z0
     go_wp2
     go_ret
     exact⟨by rw[HG2.out]<;>rfl,M6,by rw[HG2.out];exact HD6.out,by rw[HG2.out];exact HW6.out,HM6.out⟩
   ·rw[if_pos rfl]at HG2
    have f1:=HD5.out.blk.free 1
    obtain⟨hl6,hw6⟩:=HD5.out.counted n
    have HD6:=aH hl6
    have HW6:=aH (HW5.out.trans hw6)
    have HSY:=aH (jD B M5 d5 _ hl6.disk (HFT.out.sml (by omega)))
    have z6:(w5.setCell ⟨l,1,none⟩ (.int .i64 n)).cell? ⟨w.heap.size,0,none⟩=some (.pointer (some ⟨l,0,none⟩)):=(HBX5.out.far 1 (.int .i64 n) (by have:=HD.out.blk.lt;omega)).cells1
    obtain⟨x0,x1⟩:=hl6.cells
    clear hl6 hw6
    go_wp2_with fail
    refine HSY.out.mono ?_
    rintro e w7 hr7
    obtain⟨rfl,M7,h7,hw7,hm7⟩:=bF.log HD6.out hr7
    have HD7:=aH h7
    have HW7:=aH (HW6.out.trans hw7)
    have HM7:=aH (hm7.trans HM5.out)
    clear hr7 h7 hw7 hm7 HSY y0 y1 z0 z6 x0 x1 f1
    go_wp2
    go_ret
    exact⟨by rw[HG2.out]<;>rfl,M7,by rw[HG2.out,HLN.out];exact HD7.out,by rw[HG2.out];exact HW7.out,HM7.out⟩
end Go.Proofs.YthjeglnkgdpijaaGreatDoor
