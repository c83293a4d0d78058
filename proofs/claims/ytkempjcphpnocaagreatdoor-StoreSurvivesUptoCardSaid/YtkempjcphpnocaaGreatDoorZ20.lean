/- The store's table and its records in memory; the walks of Count, Ids, records. Conditions: at most 2^30 entries; Ids of at most 2^40 bytes. The walks of the log's Add, of Rewrite's steps and of Rewrite. Conditions: what the disk's steps ask; Ids of at most 2^31 bytes; at most 2^30 records. -/
import Derived.Test.YtkempjcphpnocaaGreatDoorZ21
namespace Go.Proofs.YtkempjcphpnocaaGreatDoor
open Go Go.RowKit Go.Maps
theorem tbT_ul:Tryz.prog.underlying 84=some (.map 9 3):=by kernel_rfl
theorem zeroInt (w:World):(zeroValue 3).run Tryz.prog w=.ok (.int .i64 0) w:=by kernel_rfl
theorem S.intR_inv {v:Value} {z:Int} {ps:List MemPlace} (h:S.intR v=some (.lit (.int .i64 z),ps)):v=.int .i64 z:=by
 unfold S.intR at h
 split at h
 ·simp only[Option.some.injEq,Prod.mk.injEq,DataW.lit.injEq,Lit.int.injEq,true_and]at h
  rw[h.1]
 ·cases h
section
variable {w:World} {b n:Nat} {t:D.NM}
theorem tab_look (h:w.ownsMap Tryz.prog 9 S.intR b n (S.datT t)) (nm:ByteArray) (hs:nm.size≤maxLen) :
  (Instr.lookup 84 (.map (some b)) (.string nm) false).run Tryz.prog w=.ok (.int .i64 ((D.find t nm).getD 0)) w:=by
 obtain⟨v,ps,hr,hv⟩:=h.lookup (string_keyed strT_ul) tbT_ul (zeroInt w) (zd:=.lit (.int .i64 0)) (zp:=[]) rfl (nmKey nm hs)
 rw[hr]
 unfold S.datT at hv
 rw[D.datum_at]at hv
 cases hf:D.find t nm with
 | none=>rw[hf]at hv;rw[S.intR_inv hv];rfl
 | some no=>rw[hf]at hv;rw[S.intR_inv hv];rfl
theorem tab_has (nm:ByteArray):Maps.has (S.datT t) (D.key nm)=(D.find t nm).isSome:=by
 unfold S.datT D.datum
 rw[Maps.has_eq,Bool.eq_iff_iff,List.any_eq_true]
 constructor
 ·rintro⟨p,hp,hk⟩
  obtain⟨q,hq,rfl⟩:=List.mem_map.1 hp
  have:q.1=nm:=by
   have:(D.key q.1).sameKey (D.key nm)=true:=hk
   rw[D.same_key]at this
   exact of_decide_eq_true this
  cases hf:D.find t nm with
  | some _=>rfl
  | none=>exact absurd this (D.find_none hf q hq)
 ·intro h
  obtain⟨no,hno⟩:=Option.isSome_iff_exists.1 h
  exact⟨_,List.mem_map_of_mem (D.find_mem hno),by show (D.key nm).sameKey (D.key nm)=true;rw[D.same_key];simp⟩
theorem tab_ok (h:w.ownsMap Tryz.prog 9 S.intR b n (S.datT t)) (nm:ByteArray) (hs:nm.size≤maxLen) :
  (Instr.lookup 84 (.map (some b)) (.string nm) true).run Tryz.prog w=.ok (.tuple #[.int .i64 ((D.find t nm).getD 0),.bool (D.find t nm).isSome]) w:=by
 obtain⟨v,ps,hr,hv⟩:=h.look_ok (string_keyed strT_ul) tbT_ul (zeroInt w) (zd:=.lit (.int .i64 0)) (zp:=[]) rfl (nmKey nm hs)
 rw[tab_has]at hr
 rw[hr]
 unfold S.datT at hv
 rw[D.datum_at]at hv
 cases hf:D.find t nm with
 | none=>rw[hf]at hv;rw[S.intR_inv hv];rfl
 | some no=>rw[hf]at hv;rw[S.intR_inv hv];rfl
theorem tab_len (h:w.ownsMap Tryz.prog 9 S.intR b n (S.datT t)) (ty:TypeId):(Builtin.len_ #[84] ty #[.map (some b)]).run Tryz.prog w=.ok (.int .i64 (t.length:Nat)) w:=by
 have:=h.len tbT_ul ty
 rw[this]
 unfold S.datT D.datum
 rw[Maps.size_eq]
 simp
theorem tab_tight (h:w.ownsMap Tryz.prog 9 S.intR b n (S.datT t)):w.ownsMap Tryz.prog 9 S.intR b t.length (S.datT t):=by
 obtain⟨es,cl,hb,F,hs,hD⟩:=h
 refine⟨es,cl,hb,F,?_,hD⟩
 have h1:=congrArg Maps.size hD
 unfold S.datT D.datum at h1
 rw[Maps.size_eq,Maps.size_eq,length_sorted]at h1
 simp at h1
 omega
end
def rcells:List R.Rc→List Value
 | []=>[]
 | r::t=>.int .i64 r.seq::.int .i64 r.op::.int .i64 r.no::.string r.id::rcells t
theorem rcells_append:∀ l m:List R.Rc,rcells (l++m)=rcells l++rcells m
 | [],m=>rfl
 | r::t,m=>by simp [rcells,rcells_append t m]
theorem rcells_one:∀ l:List R.Rc,∀ u∈rcells l,u.oneCell'=true
 | [],u,h=>by cases h
 | r::t,u,h=>by
  simp only[rcells,List.mem_cons]at h
  rcases h with rfl | rfl | rfl | rfl | h
  ·rfl
  ·rfl
  ·rfl
  ·rfl
  ·exact rcells_one t u h
theorem rcells_at:∀ (l:List R.Rc) (k:Nat) (h:k < l.length),(rcells l)[k * 4]?=some (.int .i64 l[k].seq)∧(rcells l)[k * 4+1]?=some (.int .i64 l[k].op)∧(rcells l)[k * 4+2]?=some (.int .i64 l[k].no)∧(rcells l)[k * 4+3]?=some (.string l[k].id)
 | r::t,0,_=>by simp [rcells]
 | r::t,k+1,h=>by
  have:=rcells_at t k (by simpa using h)
  have e:(k+1) * 4=k * 4+4:=by omega
  simp only[rcells,e,List.getElem_cons_succ]
  exact this
theorem rd_rec4 {w:World} {A:Option Addr} {n k:Nat} {l:List R.Rc} (h:Rd w A n 4 (rcells l)) (hk:k < n) (hl:l.length=n) :
  ∃ b o,A=some ⟨b,o,none⟩∧b < w.heap.size∧w.cell? ⟨b,o+k * 4,none⟩=some (.int .i64 (l[k]'(by omega)).seq)∧w.cell? ⟨b,o+k * 4+1,none⟩=some (.int .i64 (l[k]'(by omega)).op)∧w.cell? ⟨b,o+k * 4+2,none⟩=some (.int .i64 (l[k]'(by omega)).no)∧w.cell? ⟨b,o+k * 4+3,none⟩=some (.string (l[k]'(by omega)).id):=by
 obtain⟨b,o,rfl,hb,hc⟩:=h.2 (by omega)
 obtain⟨h0,h1,h2,h3⟩:=rcells_at l k (by omega)
 exact⟨b,o,rfl,hb,hc _ _ h0,by rw[Nat.add_assoc];exact hc _ _ h1,by rw[Nat.add_assoc];exact hc _ _ h2,by rw[Nat.add_assoc];exact hc _ _ h3⟩
theorem Tryz.infoRec:(Tryz.prog.info? 89).map (fun i=>(i.zero,i.size,i.bytes))=some (some (.agg #[.int .i64 0,.int .i64 0,.int .i64 0,.string ⟨#[]⟩]),4,40):=by kernel_rfl
section
variable (w:World) {ops:Array Oper} {rest:List Oper} {o:Oper} {a:Act} {K:Act→World→Prop} {Q:Exit→Act→World→Prop}
theorem wpRec (s x:Operand) (ho:o.op=.call { callee:=.builtin .append,args:=#[s,x],argTypes:=#[81,81] })
  (base:Nat) (A:Option Addr) (n c:Nat) (xs:List R.Rc) (hs:a.eval s=.slice A n c) (hown:Row w base 89 4 A n c (rcells xs))
  (S:Option Addr) (m d:Nat) (news:List R.Rc) (hx:a.eval x=.slice S m d) (hr:Rd w S m 4 (rcells news)) (h63:n+m≤2199023255552) (hbase:base≤w.heap.size)
  (h:∀ A' c' w',Row w' base 89 4 A' (n+m) c' (rcells (xs++news))→App w w' A c A' c'→K (a.put o.dst (.slice A' (n+m) c')) w'):o.wp Tryz.prog a w K Q:=by
 obtain⟨i0,hi0,hz0,hz1,hz2⟩:=info_parts Tryz.infoRec
 exact wp_app w s x _ ho _ i0 _ 4 40 Tryz.underlying81 hi0 hz0 hz1 hz2 rfl (by omega) base A n c _ hs hown S m d _ hx hr (rcells_one news) (by simp only[maxLen];omega) (by omega) hbase (by rw[← rcells_append];exact h)
theorem appRec (hgd:o.guard=none) (s x:Operand) (ho:o.op=.call { callee:=.builtin .append,args:=#[s,x],argTypes:=#[81,81] })
  (base:Nat) (A:Option Addr) (n c:Nat) (xs:List R.Rc) (hs:a.eval s=.slice A n c) (hown:Row w base 89 4 A n c (rcells xs))
  (S:Option Addr) (m d:Nat) (news:List R.Rc) (hx:a.eval x=.slice S m d) (hr:Rd w S m 4 (rcells news)) (h63:n+m≤2199023255552) (hbase:base≤w.heap.size)
  (h:∀ A' c' w',Row w' base 89 4 A' (n+m) c' (rcells (xs++news))→App w w' A c A' c'→wpList Tryz.prog ops Q rest (a.put o.dst (.slice A' (n+m) c')) w'):wpList Tryz.prog ops Q (o::rest) a w :=
 wpList_plain hgd fun _ hK=>wpRec w s x ho base A n c xs hs hown S m d news hx hr h63 hbase fun A' c' w' h2 h3=>hK _ _ (h A' c' w' h2 h3)
end
theorem went_off {F F':Nat→Prop} {w w':World} {A:Option Addr} {n size:Nat} {xs:List Value} (h:Went F w F' w') (hx:Rd w A n size xs) (hA:0 < n→∀ a,A=some a→¬ F a.block):0 < n→∀ a,A=some a→¬ F' a.block:=by
 intro hn a ha hf
 obtain⟨b,o,e,hlt,_⟩:=hx.2 hn
 rw[ha]at e
 cases e
 rcases h.foot _ hf with h1 | h1
 ·exact hA hn _ ha h1
 ·dsimp only at h1
  omega
theorem Fit.roomy {d:D.Dsk} {m:Nat} (hf:D.Fit m d):0≤d.room∧d.room≤1152921504606846976:=⟨hf.room.1,by have:=hf.room.2;omega⟩
theorem syncS_any (B:Nat) (M:DM) (s:D.Dsk) (nm:ByteArray) (w:World) (h:DkAt B M s w) (hs:s.Sml) (ok:s.Ok) (hn:nm.size≤1099511627776):Calls Tryz.prog 62 #[.pointer (some ⟨M.d,0,none⟩),.string nm] w (RetStep B M s w (s.sync nm)) :=
 (sync_any B M s nm w h hs ok hn).mono fun _ _ h=>⟨h.1,M,h.2.1,h.2.2⟩
theorem count_any (B l:Nat) (M:DM) (d:D.Dsk) (count:Nat) (w:World) (h:LgAt B l M d count w):Calls Tryz.prog 40 #[.pointer (some ⟨l,0,none⟩)] w (RetP w (.int .i64 count)):=by
 obtain⟨y0,y1⟩:=h.cells
 clear h y0
 go_enter Tryz.func40,Tryz.ntmps40
 go_wp2
 go_ret
 exact⟨rfl,rfl⟩
set_option maxHeartbeats 1000000 in
theorem ids_any (B:Nat) (X:SM) (s:S.Sto) (w:World) (h:StAt B X s w) (hu:D.Up s.tab) (hl:s.tab.length≤1073741824) :
  Calls Tryz.prog 12 #[.pointer (some ⟨X.st,0,none⟩)] w (RetRow w 9 1 s.ids.length (scells s.ids)):=by
 have HD:=Lib.hid h
 have HKE:=Lib.hid (fun u=>keysT_any (some X.tb) u)
 obtain⟨y0,y1,y2,y3⟩:=h.cells
 have hb2:Below w.heap.size w (w.alloc (.cells #[.map (some X.tb)] 84)):=(Below.refl _ _).alloc (Nat.le_refl _) _
 have HSO:=Lib.hid (sortedT_any (fun n=>n) s.tab w.heap.size X.tb (w.alloc (.cells #[.map (some X.tb)] 84)) (by simp) ((Blk.new w _ _).cell 0 rfl) (h.below hb2).tab hu hl)
 have HB2:=Lib.hid hb2
 clear h y0 y1 y3 hb2
 go_enter Tryz.func12,Tryz.ntmps12
 go_wp2_with fail
 refine (HKE.out _).mono ?_
 rintro e w2 ⟨rfl,rfl⟩
 clear y2 HKE
 go_wp2_with fail
 refine HSO.out.mono ?_
 rintro e w3 ⟨A,c,rfl,hr,hb3⟩
 have HR:=Lib.hid (hr.mono HB2.out.size)
 have HB3:=Lib.hid (below_then HB2.out.size HB2.out hb3)
 clear hr hb3 HSO HB2
 go_wp2
 go_ret
 exact⟨A,c,by rw[show s.ids.length=s.tab.length from List.length_map _];rfl,HR.out,HB3.out⟩
theorem S.records_take (t:D.NM) (k:Nat) (h:k < t.length):S.records (t.take (k+1))=S.records (t.take k)++[⟨0,1,(t[k]'h).2,(t[k]'h).1⟩]:=by
 unfold S.records
 rw[List.take_succ_eq_append_getElem h,List.map_append]
 rfl
set_option maxHeartbeats 2000000 in
theorem records_any (B:Nat) (X:SM) (s:S.Sto) (w:World) (h:StAt B X s w) (hu:D.Up s.tab) (hl:s.tab.length≤1073741824) (hz:∀ p∈s.tab,p.1.size≤1099511627776) :
  Calls Tryz.prog 33 #[.pointer (some ⟨X.st,0,none⟩)] w (RetRow w 89 4 (S.records s.tab).length (rcells (S.records s.tab))):=by
 have HD:=Lib.hid h
 have HI:=Lib.hid (ids_any B X s w h hu hl)
 obtain⟨t,ht⟩:∃ t,t=s.tab:=⟨_,rfl⟩
 have HT:=Lib.hid ht
 have hil:s.ids.length=t.length:=by unfold S.Sto.ids;rw[List.length_map,ht]
 rw[hil]at HI
 have HRL:Hid ((S.records t).length=t.length):=Lib.hid (by unfold S.records;rw[List.length_map])
 rw[← ht]at hu hl hz ⊢
 rw[HRL.out]
 have HU:=Lib.hid hu
 have HZ:=Lib.hid hz
 have HIL:=Lib.hid hil
 clear h ht hu hz hil
 go_enter Tryz.func33,Tryz.ntmps33
 go_wp2_with fail
 refine HI.out.mono ?_
 rintro e w1 ⟨A1,c1,rfl,hr1,hb1⟩
 have HR1:=Lib.hid hr1.rd
 have HB1:=Lib.hid hb1
 clear hr1 hb1 HI
 go_wp2
 go_loopw [3,9] (fun out i wr=>∃ (k:Nat) (A2:Option Addr) (c2:Nat),k≤t.length∧i=.int .i64 k∧out=.slice A2 k c2∧Row wr w1.heap.size 89 4 A2 k c2 (rcells (S.records (t.take k)))∧Below w1.heap.size w1 wr) (fun _ i _=>t.length - (intOf i).toNat)
 case atStart=>exact⟨0,none,0,Nat.zero_le _,rfl,rfl,Row.none_ _ _ _ _,Below.refl _ _⟩
 case round =>
  obtain⟨k,A2,c2,hk,rfl,rfl,hrow,hb1e⟩:=hrel
  have HROW:=Lib.hid hrow
  have HBE:=Lib.hid (below_then HB1.out.size HB1.out hb1e)
  have HB1E:=Lib.hid hb1e
  clear hrow hb1e
  by_cases hlt:k < t.length
  ·have hki:k < s.ids.length:=by rw[HIL.out];exact hlt
   obtain⟨b,o,rfl,hb,hc⟩:=(HR1.out.below HB1E.out).str hlt HIL.out
   have HTK:=Lib.hid (S.records_take t k hlt)
   have hid_:s.ids[k]'hki=(t[k]'hlt).1:=by
    have key:∀ (l:List ByteArray),l=t.map (·.1)→∀ h:k < l.length,l[k]'h=(t[k]'hlt).1:=by
     rintro l rfl h
     simp
    exact key s.ids (by rw[HT.out];rfl) hki
   have hfd:=D.mem_find HU.out (List.getElem_mem hlt)
   have hsz:=HZ.out _ (List.getElem_mem hlt)
   rw[hid_]at hc
   generalize t[k]'hlt=p at *
   obtain⟨nm,no⟩:=p
   dsimp only at hfd hsz hc HTK
   have hlk:=tab_look ((HD.out.below HBE.out).tab) nm (by simp only[maxLen];omega)
   rw[← HT.out,hfd]at hlk
   obtain⟨y0,y1,y2,y3⟩:=(HD.out.below HBE.out).cells
   simp only[Option.getD_some]at hlk
   clear y0 y1 y3 hid_ hki hfd
   have HNEW:=Lib.hid (Rd.newRow wr 89 #[.int .i64 0,.int .i64 1,.int .i64 no,.string nm] 1 4 rfl)
   have hbz:w1.heap.size≤(wr.alloc (.cells #[.int .i64 0,.int .i64 1,.int .i64 no,.string nm] 89)).heap.size:=by rw[World.size_alloc];have:=HB1E.out.size;omega
   go_wp2_with (at_builtin;refine appRec _ rfl _ _ rfl w1.heap.size A2 k c2 (S.records (t.take k)) rfl (HROW.out.alloc _) _ 1 1 [⟨0,1,no,nm⟩] rfl HNEW.out (by omega) hbz ?_;intro A3 c3 w3 hr3 ha3;have HR3:=Lib.hid hr3;have HBA:=Lib.hid (ha3.below (HROW.out.alloc _) hbz);clear hr3 ha3)
   go_roundw
   case rel =>
    exact⟨k+1,A3,c3,by omega,by go_num,rfl,by rw[HTK.out];exact HR3.out,(HB1E.out.alloc HB1E.out.size _).trans HBA.out⟩
   case measure=>simp [intOf];omega
  ·have hkt:k=t.length:=by omega
   have HROW2:Hid (Row wr w.heap.size 89 4 A2 k c2 (rcells (S.records t))):=Lib.hid (by
    have:=HROW.out.mono HB1.out.size
    rwa [List.take_of_length_le (by omega)]at this)
   clear HROW
   subst hkt
   go_wp2
   go_ret
   exact⟨A2,c2,rfl,HROW2.out,HBE.out⟩
end Go.Proofs.YtkempjcphpnocaaGreatDoor
namespace Go.Proofs.YtkempjcphpnocaaGreatDoor
open Go Go.RowKit Go.Maps
theorem crow_off {B l n c base:Nat} {M:DM} {d:D.Dsk} {count:Nat} {w w1:World} {A:Option Addr} {bs:List UInt8} (h:LgAt B l M d count w) (hr:CRow w1 base A n c bs) (hb:w.heap.size≤base):0 < n→∀ a,A=some a→¬ lgFoot l M d a.block:=by
 intro hn a ha
 have h1:=hr.2.1
 rcases hr.2.2 with h2 | ⟨g,h2,hB,_⟩
 ·omega
 ·rw[ha]at h2
  cases h2
  rintro (hf | hf)
  ·have:=h.disk.lt hf
   dsimp only at this
   omega
  ·have:=h.blk.lt
   dsimp only at hf
   omega
theorem enc_small (r:R.Rc) (h:r.id.size≤2147483648):(R.enc r).length≤2147483663:=by
 by_cases hc:R.code r=0
 ·rw[R.enc_len r hc];omega
 ·rw[R.enc_bad hc];exact Nat.zero_le _
theorem log_small:S.logN.size≤1099511627776∧S.newN.size≤1099511627776:=⟨by show 3≤_;decide,by show 7≤_;decide⟩
section
variable {B l:Nat} {M:DM} {d:D.Dsk} {count m:Nat} {w:World}
theorem RetStep.log {x:D.Dsk × Int} {e:Ending} {w':World} (h:LgAt B l M d count w) (hr:RetStep B M d w x e w'):RetLog B l M d w (x.1,count,x.2) e w':=by
 obtain⟨he,M',hd,hs⟩:=hr
 obtain⟨h1,h2⟩:=h.step hd hs
 exact⟨he,M',h1,h2,hs.same⟩
end
set_option maxHeartbeats 4000000 in
theorem add_any (B l:Nat) (M:DM) (d:D.Dsk) (count m:Nat) (op no:Int) (id:ByteArray) (w:World) (h:LgAt B l M d count w) (hf:D.Fit m d) (hm:m≤134217728) (hc:count≤1099511627776) (hi:id.size≤2147483648) :
  Calls Tryz.prog 42 #[.pointer (some ⟨l,0,none⟩),.int .i64 op,.int .i64 no,.string id] w (RetLog B l M d w (S.add d count op no id)):=by
 have HD:=Lib.hid h
 have HF:=Lib.hid hf
 have HE:=Lib.hid (rencode_any ⟨count,op,no,id⟩ w hi)
 have hes:=enc_small ⟨count,op,no,id⟩ hi
 obtain⟨y0,y1⟩:=h.cells
 obtain⟨G,hG⟩:∃ G,S.add d count op no id=G:=⟨_,rfl⟩
 have HG:Hid (G=if R.code ⟨count,op,no,id⟩≠0 then (d,count,R.code ⟨count,op,no,id⟩)
  else if (d.append S.logN (R.enc ⟨count,op,no,id⟩)).2≠0 then ((d.append S.logN (R.enc ⟨count,op,no,id⟩)).1,count,(d.append S.logN (R.enc ⟨count,op,no,id⟩)).2)
  else (((d.append S.logN (R.enc ⟨count,op,no,id⟩)).1.sync S.logN).1,count+1,((d.append S.logN (R.enc ⟨count,op,no,id⟩)).1.sync S.logN).2)):=Lib.hid hG.symm
 rw[hG]
 dsimp only at HE
 generalize R.enc ⟨count,op,no,id⟩=bs at *
 generalize R.code ⟨count,op,no,id⟩=code at *
 have HA:=Lib.hid (fun (A:Option Addr) (c:Nat) (u:World) (hb:Below w.heap.size w u) (hr:CRow u w.heap.size A bs.length c bs)=>append_any B M d S.logN A bs.length c bs u (h.below hb).disk (hf.sml (by omega)) hf.ok (hf.used (by omega)) (Fit.roomy hf) log_small.1 rfl (by omega) hr.rd (fun hn a ha hfo=>crow_off h hr (Nat.le_refl _) hn a ha (.inl hfo)))
 have HF1:=Lib.hid (hf.append S.logN bs)
 clear h hf hG
 go_enter Tryz.func42,Tryz.ntmps42
 go_wp2_with fail
 refine HE.out.mono ?_
 rintro e w1 ⟨A1,c1,rfl,hr1,hb1⟩
 have HD1:=Lib.hid (HD.out.below hb1)
 have HB1:=Lib.hid hb1
 have HA1:=Lib.hid (HA.out A1 c1 w1 hb1 hr1)
 clear hb1 hr1 HE HA y0 y1 HD
 obtain⟨y0,y1⟩:=HD1.out.cells
 by_cases h0:code=0
 rotate_left
 ·rw[if_pos h0]at HG
  have h0b:(code != 0)=true:=by simpa using h0
  go_wp2
  go_ret
  exact⟨by rw[HG.out]<;>rfl,M,by rw[HG.out];exact HD1.out,by rw[HG.out];exact Went.below HB1.out _,rfl⟩
 subst h0
 rw[if_neg (by simp)]at HG
 go_wp2_with fail
 refine HA1.out.mono ?_
 rintro e w2 ⟨rfl,M2,hd2,hs2⟩
 obtain⟨hl2,hw2⟩:=HD1.out.step hd2 hs2
 have HD2:=Lib.hid hl2
 have HW2:=Lib.hid ((Went.below HB1.out (lgFoot l M d)).trans hw2)
 have HM2:=Lib.hid hs2.same
 obtain⟨Y,hY⟩:∃ Y,d.append S.logN bs=Y:=⟨_,rfl⟩
 rw[hY]at HD2 HW2 HG HF1 ⊢
 obtain⟨d2,e2⟩:=Y
 dsimp only at HD2 HW2 HG HF1 ⊢
 clear hd2 hs2 hl2 hw2 HA1 HB1 HD1 y0 y1 hY
 obtain⟨y0,y1⟩:=HD2.out.cells
 have f1:=HD2.out.blk.free 1
 by_cases h2:e2=0
 rotate_left
 ·rw[if_pos h2]at HG
  have h2b:(e2 != 0)=true:=by simpa using h2
  go_wp2
  go_ret
  exact⟨by rw[HG.out]<;>rfl,M2,by rw[HG.out];exact HD2.out,by rw[HG.out];exact HW2.out,HM2.out⟩
 subst h2
 rw[if_neg (by simp)]at HG
 obtain⟨hl3,hw3⟩:=HD2.out.counted (count+1)
 rw[show ((count+1:Nat):Int)=(count:Int)+1 by push_cast;rfl]at hl3 hw3
 have HD3:=Lib.hid hl3
 have HW3:=Lib.hid (HW2.out.trans hw3)
 have HSY:=Lib.hid (syncS_any B M2 d2 S.logN _ hl3.disk (HF1.out.sml (by omega)) HF1.out.ok log_small.1)
 obtain⟨z0,z1⟩:=hl3.cells
 clear hl3 hw3
 go_wp2_with fail
 refine HSY.out.mono ?_
 rintro e w4 hr4
 obtain⟨rfl,M4,hd4,hw4,hm4⟩:=RetStep.log HD3.out hr4
 have HD4:=Lib.hid hd4
 have HW4:=Lib.hid (HW3.out.trans hw4)
 have HM4:=Lib.hid (hm4.trans HM2.out)
 clear hr4 hd4 hw4 hm4 HSY z0 z1 y0 y1 f1
 go_wp2
 go_ret
 exact⟨by rw[HG.out]<;>rfl,M4,by rw[HG.out];exact HD4.out,by rw[HG.out];exact HW4.out,HM4.out⟩
section
variable (B l:Nat) (M:DM) (d:D.Dsk) (count m bx:Nat) (w:World)
set_option maxHeartbeats 1000000 in
theorem rw1_any (h:LgAt B l M d count w) (hf:D.Fit m d) (hm:m≤134217728) (hb:Blk w bx #[.pointer (some ⟨l,0,none⟩)] 80) :
  Calls Tryz.prog 66 #[.pointer (some ⟨bx,0,none⟩)] w (RetLog B l M d w ((d.create S.newN).1,count,(d.create S.newN).2)):=by
 have HC:=Lib.hid (create_any B M d S.newN w h.disk (hf.sml (by omega)) hf.ok log_small.2)
 have HD:=Lib.hid h
 obtain⟨y0,y1⟩:=h.cells
 have z0:=hb.cells1
 clear h hb y1
 go_enter Tryz.func66,Tryz.ntmps66
 go_wp2_with fail
 refine HC.out.mono ?_
 rintro e w4 hr4
 have h4:=RetStep.log HD.out hr4
 obtain⟨rfl,h5⟩:=h4
 clear hr4 HC y0 z0
 go_wp2
 go_ret
 exact⟨rfl,h5⟩
set_option maxHeartbeats 1000000 in
theorem rw2_any (by_:Nat) (A:Option Addr) (n c:Nat) (bs:List UInt8) (h:LgAt B l M d count w) (hf:D.Fit m d) (hm:m≤134217728) (hb:Blk w bx #[.pointer (some ⟨l,0,none⟩)] 80) (hy:Blk w by_ #[.slice A n c] 26) (hl:bs.length=n) (hln:n≤1099511627776) (hx:Rd w A n 1 (bcells bs)) (hA:0 < n→∀ a,A=some a→¬ lgFoot l M d a.block) :
  Calls Tryz.prog 67 #[.pointer (some ⟨bx,0,none⟩),.pointer (some ⟨by_,0,none⟩)] w (RetLog B l M d w ((d.append S.newN bs).1,count,(d.append S.newN bs).2)):=by
 have HC:=Lib.hid (fun (u:World) (hu:Below w.heap.size w u)=>append_any B M d S.newN A n c bs u (h.below hu).disk (hf.sml (by omega)) hf.ok (hf.used (by omega)) (Fit.roomy hf) log_small.2 hl hln (hx.below hu) (fun hn a ha hfo=>hA hn a ha (.inl hfo)))
 have HD:=Lib.hid h
 clear h hx hA
 go_enter Tryz.func67,Tryz.ntmps67
 go_upto_region 1 with fail
 have hS0:Below w.heap.size w w.drew:=(Below.refl _ _).drew
 have HZB:=Lib.hid hb
 have HZY:=Lib.hid hy
 clear hb hy
 refine wp_region_noPanic ?_
 refine HT.begin (n:=5) (S:=(fun u=>Below w.heap.size w u)) (by kernel_rfl) hS0 ?_
 generalize w.drew=wd at *
 refine HT.take 0 (.pointer (some ⟨l,0,none⟩)) rfl (by kernel_rfl) (fun _ _ _ h=>h) (Or.inl ⟨by rfl,?_⟩) (?_:HT _ _ _ _ _ _ _ ⟨#[.pointer (some ⟨bx,0,none⟩),.pointer (some ⟨by_,0,none⟩),_,.pointer (some ⟨l,0,none⟩),_,_,_,_,_],[]⟩ _)
 ·intro u hu
  have z0:=(HZB.out.below hu).cells1
  go_simp
 refine HT.take 1 (.pointer (some ⟨l,0,none⟩)) rfl (by kernel_rfl) (fun _ _ _ h=>h) (Or.inl ⟨by rfl,?_⟩) (?_:HT _ _ _ _ _ _ _ ⟨#[.pointer (some ⟨bx,0,none⟩),.pointer (some ⟨by_,0,none⟩),_,.pointer (some ⟨l,0,none⟩),.pointer (some ⟨l,0,none⟩),_,_,_,_],[]⟩ _)
 ·intro u hu
  go_simp
 refine HT.take 2 (.pointer (some ⟨l,0,none⟩)) rfl (by kernel_rfl) (fun _ _ _ h=>h) (Or.inl ⟨by rfl,?_⟩) (?_:HT _ _ _ _ _ _ _ ⟨#[.pointer (some ⟨bx,0,none⟩),.pointer (some ⟨by_,0,none⟩),_,.pointer (some ⟨l,0,none⟩),.pointer (some ⟨l,0,none⟩),.pointer (some ⟨l,0,none⟩),_,_,_],[]⟩ _)
 ·intro u hu
  go_simp
 refine HT.take 3 (.pointer (some ⟨M.d,0,none⟩)) rfl (by kernel_rfl) (fun _ _ _ h=>h) (Or.inl ⟨by rfl,?_⟩) (?_:HT _ _ _ _ _ _ _ ⟨#[.pointer (some ⟨bx,0,none⟩),.pointer (some ⟨by_,0,none⟩),_,.pointer (some ⟨l,0,none⟩),.pointer (some ⟨l,0,none⟩),.pointer (some ⟨l,0,none⟩),.pointer (some ⟨M.d,0,none⟩),_,_],[]⟩ _)
 ·intro u hu
  obtain⟨y0,y1⟩:=(HD.out.below hu).cells
  go_simp
 refine HT.take 4 (.slice A n c) rfl (by kernel_rfl) (fun _ _ _ h=>h) (Or.inl ⟨by rfl,?_⟩) (?_:HT _ _ _ _ _ _ _ ⟨#[.pointer (some ⟨bx,0,none⟩),.pointer (some ⟨by_,0,none⟩),_,.pointer (some ⟨l,0,none⟩),.pointer (some ⟨l,0,none⟩),.pointer (some ⟨l,0,none⟩),.pointer (some ⟨M.d,0,none⟩),.slice A n c,_],[]⟩ _)
 ·intro u hu
  have z1:=(HZY.out.below hu).cells1
  go_simp
 refine HT.tail _ rfl rfl (by kernel_rfl) (fun hS=>?_)
 have hbd:=hS
 clear hS hS0 HZB HZY
 have HD1:=Lib.hid (HD.out.below hbd)
 have HC1:=Lib.hid (HC.out _ hbd)
 have HW1:Hid (Went (lgFoot l M d) w (lgFoot l M d) _):=Lib.hid (Went.below hbd _)
 clear HC HD hbd
 go_wp2_with fail
 refine HC1.out.mono ?_
 rintro e w4 hr4
 obtain⟨rfl,M4,h5,h6,h7⟩:=RetStep.log HD1.out hr4
 have h8:=HW1.out.trans h6
 clear hr4 HC1 h6
 go_wp2
 refine NoPanic.normal ?_
 go_wp2
 go_ret
 exact⟨rfl,M4,h5,h8,h7⟩
set_option maxHeartbeats 1000000 in
theorem rw3_any (h:LgAt B l M d count w) (hf:D.Fit m d) (hm:m≤134217728) (hb:Blk w bx #[.pointer (some ⟨l,0,none⟩)] 80) :
  Calls Tryz.prog 69 #[.pointer (some ⟨bx,0,none⟩)] w (RetLog B l M d w ((d.sync S.newN).1,count,(d.sync S.newN).2)):=by
 have HC:=Lib.hid (syncS_any B M d S.newN w h.disk (hf.sml (by omega)) hf.ok log_small.2)
 have HD:=Lib.hid h
 obtain⟨y0,y1⟩:=h.cells
 have z0:=hb.cells1
 clear h hb y1
 go_enter Tryz.func69,Tryz.ntmps69
 go_wp2_with fail
 refine HC.out.mono ?_
 rintro e w4 hr4
 have h4:=RetStep.log HD.out hr4
 obtain⟨rfl,h5⟩:=h4
 clear hr4 HC y0 z0
 go_wp2
 go_ret
 exact⟨rfl,h5⟩
set_option maxHeartbeats 1000000 in
theorem rw4_any (h:LgAt B l M d count w) (hf:D.Fit m d) (hm:m≤134217728) (hb:Blk w bx #[.pointer (some ⟨l,0,none⟩)] 80) :
  Calls Tryz.prog 70 #[.pointer (some ⟨bx,0,none⟩)] w (RetLog B l M d w ((d.rename S.newN S.logN).1,count,(d.rename S.newN S.logN).2)):=by
 have HC:=Lib.hid (rename_any B M d S.newN S.logN w h.disk (hf.sml (by omega)) log_small.2 log_small.1)
 have HD:=Lib.hid h
 obtain⟨y0,y1⟩:=h.cells
 have z0:=hb.cells1
 clear h hb y1
 go_enter Tryz.func70,Tryz.ntmps70
 go_wp2_with fail
 refine HC.out.mono ?_
 rintro e w4 hr4
 have h4:=RetStep.log HD.out hr4
 obtain⟨rfl,h5⟩:=h4
 clear hr4 HC y0 z0
 go_wp2
 go_ret
 exact⟨rfl,h5⟩
end
end Go.Proofs.YtkempjcphpnocaaGreatDoor
