/- Numbers behind numbers: append onto a list of the call's own. Plain lemma on the model's append. The log's records: what is written is read back, one by one and all of them. No program here. The walk of the log's Open over a disk without a log, where its three first steps answer OK. Conditions: what the disk's steps ask. The disk that a new log leaves, and its store. No program here. -/
import Derived.Test.YthjeglnkgdpijaaGreatDoorZ13
set_option maxHeartbeats 4000000
set_option maxRecDepth 100000
namespace Go.Proofs.YthjeglnkgdpijaaGreatDoor
open Go Go.RowKit Go.Maps
theorem Tryz.infoI:(Tryz.prog.info? 3).map (fun i=>(i.zero,i.size,i.bytes))=some (some (.int .i64 0),1,8):=by kernel_rfl
theorem icells_one (l:List Int):∀ u∈icells l,u.oneCell'=true:=by
 intro u hu
 unfold icells at hu
 obtain⟨z,_,rfl⟩:=List.mem_map.1 hu
 rfl
section
variable (w:World) {ops:Array Oper} {rest:List Oper} {o:Oper} {a:Act} {K:Act→World→Prop} {Q:Exit→Act→World→Prop}
theorem appI (hgd:o.guard=none) (s x:Operand) (ho:o.op=.call { callee:=.builtin .append,args:=#[s,x],argTypes:=#[23,23] })
  (base:Nat) (A:Option Addr) (n c:Nat) (xs:List Int) (hs:a.eval s=.slice A n c) (hown:Row w base 3 1 A n c (icells xs))
  (S:Option Addr) (m d:Nat) (news:List Int) (hx:a.eval x=.slice S m d) (hr:Rd w S m 1 (icells news)) (h63:n+m≤2199023255552) (hbase:base≤w.heap.size)
  (h:∀ A' c' w',Row w' base 3 1 A' (n+m) c' (icells (xs++news))→App w w' A c A' c'→wpList Tryz.prog ops Q rest (a.put o.dst (.slice A' (n+m) c')) w'):wpList Tryz.prog ops Q (o::rest) a w:=by
 refine wpList_plain hgd fun _ hK=>?_
 obtain⟨i0,hi0,hz0,hz1,hz2⟩:=info_parts Tryz.infoI
 exact wp_app w s x _ ho _ i0 _ 1 8 Tryz.underlying23 hi0 hz0 hz1 hz2 rfl (by omega) base A n c _ hs hown S m d _ hx hr (icells_one news) (by simp only[maxLen];omega) (by omega) hbase (fun A' c' w' h2 h3=>hK _ _ (h A' c' w' (by unfold icells at *;rw[List.map_append];exact h2) h3))
end
end Go.Proofs.YthjeglnkgdpijaaGreatDoor
namespace Go.Proofs.YthjeglnkgdpijaaGreatDoor
namespace R
theorem code_facts {r:Rc} (h:code r=0):(r.op=1∨r.op=2)∧0≤r.seq∧r.seq≤4294967295∧0≤r.no∧r.no≤4294967295∧r.id.size≤4096:=by
 unfold code at h
 split at h
 ·rename_i h1
  split at h
  ·rename_i h2
   unfold word at h1
   simp only[Bool.and_eq_true,Bool.or_eq_true,decide_eq_true_eq]at h1
   exact⟨h1.1.1,h1.1.2.1,h1.1.2.2,h1.2.1,h1.2.2,h2⟩
  ·cases h
 ·cases h
theorem code_ok {seq op no:Int} {id:ByteArray} (h1:op=1∨op=2) (h2:0≤seq∧seq≤4294967295) (h3:0≤no∧no≤4294967295) (h4:id.size≤4096):code ⟨seq,op,no,id⟩=0:=by
 rw[code_id h1 (decide_eq_true h2) (decide_eq_true h3),if_pos h4]
def encs (rs:List Rc):List UInt8:=rs.flatMap enc
def Seqd:Nat→List Rc→Prop
 | _,[]=>True
 | k,r::t=>r.seq=k∧Seqd (k+1) t
structure Good (rs:List Rc):Prop where
 code:∀ r∈rs,R.code r=0
 seq:Seqd 0 rs
theorem seqd_snoc:∀ {rs:List Rc} {k:Nat} {r:Rc},Seqd k rs→r.seq=((k+rs.length:Nat):Int)→Seqd k (rs++[r])
 | [],k,r,_,h=>⟨by simpa using h,trivial⟩
 | x::t,k,r,h,hr=>⟨h.1,seqd_snoc h.2 (by rw[hr,List.length_cons];congr 1;omega)⟩
theorem len_encs:∀ (rs:List Rc),(∀ r∈rs,code r=0)→rs.length≤(encs rs).length∧(encs rs).length≤4111 * rs.length
 | [],_=>⟨Nat.le_refl _,Nat.le_refl _⟩
 | r::t,h=>by
  obtain⟨h1,h2⟩:=len_encs t (fun x hx=>h x (List.mem_cons_of_mem _ hx))
  have h3:=enc_len r (h r (by simp))
  have h4:=(code_facts (h r (by simp))).2.2.2.2.2
  unfold encs at *
  rw[List.flatMap_cons,List.length_append,List.length_cons]
  omega
def renum:Nat→List Rc→List Rc
 | _,[]=>[]
 | k,r::t=>{ r with seq:=k }::renum (k+1) t
theorem renum_len:∀ (k:Nat) (l:List Rc),(renum k l).length=l.length
 | _,[]=>rfl
 | k,_::t=>congrArg (·+1) (renum_len (k+1) t)
theorem renum_seq:∀ (k:Nat) (l:List Rc),Seqd k (renum k l)
 | _,[]=>trivial
 | k,_::t=>⟨rfl,renum_seq (k+1) t⟩
theorem renum_code:∀ (l:List Rc) (k:Nat),(∀ r∈l,r.seq=0∧code r=0)→k+l.length≤4294967295→∀ r∈renum k l,code r=0
 | [],_,_,_,r,hr=>by cases hr
 | x::t,k,h,hk,r,hr=>by
  simp only[List.length_cons]at hk
  rcases List.mem_cons.1 hr with rfl | hr
  ·obtain⟨h1,h2,h3,h4,h5,h6⟩:=code_facts (h x (by simp)).2
   exact code_ok h1 (by omega) ⟨h4,h5⟩ h6
  ·exact renum_code t (k+1) (fun y hy=>h y (List.mem_cons_of_mem _ hy)) (by omega) r hr
theorem encAll_renum:∀ (l:List Rc) (k:Nat) (b:List UInt8),(∀ r∈renum k l,code r=0)→encAll l k b=(b++encs (renum k l),0)
 | [],_,b,_=>by simp [encAll,encs,renum]
 | r::t,k,b,h=>by
  have h0:code { r with seq:=(k:Int) }=0:=h _ (by simp [renum])
  rw[encAll,h0,if_neg (by decide),encAll_renum t (k+1) _ (fun x hx=>h x (by rw[renum];exact List.mem_cons_of_mem _ hx)),renum]
  unfold encs
  rw[List.flatMap_cons,List.append_assoc]
end R
namespace S
def tstep (t:D.NM) (r:R.Rc):D.NM:=if r.op=1 then D.put t r.id r.no.toNat else D.del t r.id
theorem tabOf_snoc (rs:List R.Rc) (r:R.Rc):tabOf (rs++[r])=tstep (tabOf rs) r:=by
 unfold tabOf
 rw[List.foldl_append]
 rfl
theorem put_last:∀ {l:D.NM} {nm:ByteArray} {no:Nat},(∀ p∈l,D.ltB p.1 nm=true)→D.put l nm no=l++[(nm,no)]:=by
 intro l nm no h
 have e1:D.del l nm=l:=by
  unfold D.del
  rw[List.filter_eq_self]
  intro p hp
  have:=h p hp
  simp only[decide_eq_true_eq]
  intro e
  rw[e,D.lt_irrefl]at this
  cases this
 unfold D.put
 rw[e1]
 clear e1
 induction l with
 | nil=>rfl
 | cons p r ih =>
  have h1:=h p (by simp)
  rw[D.ins,if_neg,ih (fun q hq=>h q (List.mem_cons_of_mem _ hq))]
  ·rfl
  ·intro h2
   have:=D.lt_trans h1 h2
   rw[D.lt_irrefl]at this
   cases this
theorem tab_fold:∀ (t acc:D.NM) (k:Nat),D.Up (acc++t)→(R.renum k (records t)).foldl tstep acc=acc++t
 | [],acc,k,_=>by simp [records,R.renum]
 | p::r,acc,k,h=>by
  have h1:=List.pairwise_append.1 h
  have e:tstep acc { (⟨0,1,p.2,p.1⟩:R.Rc) with seq:=(k:Int) }=acc++[p]:=by
   unfold tstep
   rw[if_pos rfl]
   show D.put acc p.1 ((p.2:Int)).toNat=_
   rw[put_last (fun q hq=>h1.2.2 q hq p (by simp)),Int.toNat_natCast]
  show (R.renum (k+1) (records r)).foldl tstep (tstep acc _)=_
  rw[e,tab_fold r (acc++[p]) (k+1) (by rw[List.append_assoc];exact h)]
  simp
theorem tab_records {t:D.NM} (h:D.Up t):tabOf (R.renum 0 (records t))=t:=by
 have:=tab_fold t [] 0 h
 rw[List.nil_append]at this
 exact this
theorem records_good {t:D.NM} (ht:∀ p∈t,p.2 < 4096∧p.1.size≤4096) (hl:t.length≤4294967295):R.Good (R.renum 0 (records t)):=by
 refine⟨R.renum_code _ 0 ?_ ?_,R.renum_seq _ _⟩
 ·intro r hr
  obtain⟨p,hp,rfl⟩:=List.mem_map.1 hr
  have:=ht p hp
  exact⟨rfl,R.code_ok (.inl rfl) (by decide) (by omega) this.2⟩
 ·unfold records
  rw[List.length_map]
  omega
end S
open Go Go.RowKit Go.Maps
section
variable (B l:Nat) (M:DM) (d:D.Dsk) (count m bx:Nat) (w:World)
theorem op1_any (h:LgAt B l M d count w) (hf:D.Fit m d) (hm:m≤134217728) (hb:Blk w bx #[.pointer (some ⟨M.d,0,none⟩)] 30) :
  Calls Tryz.prog 92 #[.pointer (some ⟨bx,0,none⟩)] w (RetLog B l M d w ((d.create S.logN).1,count,(d.create S.logN).2)):=by
 have HC:=Lib.hid (create_any B M d S.logN w h.disk (hf.sml (by omega)) hf.ok log_small.1)
 have HD:=Lib.hid h
 have z0:=hb.cells1
 clear h hb
 go_enter Tryz.func92,Tryz.ntmps92
 go_wp2_with fail
 refine HC.out.mono ?_
 rintro e w4 hr4
 have h4:=RetStep.log HD.out hr4
 obtain⟨rfl,h5⟩:=h4
 clear hr4 HC z0
 go_wp2
 go_ret
 exact⟨rfl,h5⟩
theorem op2_any (h:LgAt B l M d count w) (hf:D.Fit m d) (hm:m≤134217728) (hb:Blk w bx #[.pointer (some ⟨M.d,0,none⟩)] 30) :
  Calls Tryz.prog 94 #[.pointer (some ⟨bx,0,none⟩)] w (RetLog B l M d w ((d.sync S.logN).1,count,(d.sync S.logN).2)):=by
 have HC:=Lib.hid (syncS_any B M d S.logN w h.disk (hf.sml (by omega)) hf.ok log_small.1)
 have HD:=Lib.hid h
 have z0:=hb.cells1
 clear h hb
 go_enter Tryz.func94,Tryz.ntmps94
 go_wp2_with fail
 refine HC.out.mono ?_
 rintro e w4 hr4
 have h4:=RetStep.log HD.out hr4
 obtain⟨rfl,h5⟩:=h4
 clear hr4 HC z0
 go_wp2
 go_ret
 exact⟨rfl,h5⟩
end
theorem Row.capNone {w:World} {base size n c:Nat} {e:TypeId} {A:Option Addr} {xs:List Value} (h:Row w base e size A n c xs):A=none→c=0:=by
 intro hA
 rcases h with ⟨_,hr⟩ | ⟨_,h,_⟩
 ·rcases hr with ⟨hv,_⟩ | ⟨g,cap,cur,hv,_⟩
  ·injection hv
  ·injection hv with h1 h2 h3
   rw[hA]at h1
   cases h1
 ·exact h
def RetOpen (B:Nat) (M:DM) (d:D.Dsk) (w:World) (d3:D.Dsk) (e:Ending) (w':World):Prop :=
 ∃ l M',e=.returned (.tuple #[.pointer (some ⟨l,0,none⟩),.slice none 0 0,.int .i64 0])∧LgAt B l M' d3 0 w'∧Went (M.foot d) w (lgFoot l M' d3) w'∧M'.d=M.d
def RetOpenD (B:Nat) (M:DM) (d:D.Dsk) (w:World) (e:Ending) (w':World):Prop :=
 (∃ code:Int,code≠0∧(d.down=false→(S.steps d S.firsts).2.2≠0)∧e=.returned (.tuple #[.pointer none,.slice none 0 0,.int .i64 code])∧Went (M.foot d) w (fun _=>False) w') ∨
 (d.down=false∧∃ d3,(S.steps d S.firsts).1=d3∧(S.steps d S.firsts).2.2=0∧RetOpen B M d w d3 e w')
theorem logOpenD_any (B:Nat) (M:DM) (d:D.Dsk) (m:Nat) (w:World) (h:DkAt B M d w) (hf:D.Fit m d) (hm:m≤134217000) (hnew:S.has d.list S.newN=false) (hrd:d.read S.logN=([],if d.down=true then 93 else 90)) :
  Calls Tryz.prog 51 #[.pointer (some ⟨M.d,0,none⟩)] w (RetOpenD B M d w):=by
 have HD:=Lib.hid h
 have HF:=Lib.hid hf
 have hln:d.now.length≤1073741824:=Nat.le_trans hf.now (by omega)
 have HLI:=Lib.hid (fun (u:World) (hu:Below w.heap.size w u)=>dlist_any B M d u (h.below hu) hf.ok hln)
 have HRE:=Lib.hid (fun (u:World) (hu:Below w.heap.size w u)=>read_any B M d S.logN u (h.below hu) (hf.sml (by omega)) hf.ok log_small.1)
 rw[hrd]at HRE
 obtain⟨dn,hdn⟩:∃ dn,d.down=dn:=⟨_,rfl⟩
 have HDN:=Lib.hid hdn
 rw[hdn]at HRE
 have HNW:=Lib.hid hnew
 have hll:d.list.length≤1099511627776:=by
  have:d.list.length≤d.now.length:=by unfold D.Dsk.list;split<;>simp
  omega
 clear h hf hnew hrd hdn
 go_enter Tryz.func51,Tryz.ntmps51
 go_upto_region 2 with fail
 obtain⟨W1,hW1⟩:∃ W1,(w.alloc (.cells #[.pointer (some ⟨M.d,0,none⟩)] 30)).alloc (.cells #[.pointer (some ⟨M.d,0,none⟩),.int .i64 0] 154)=W1:=⟨_,rfl⟩
 have hs1:(w.alloc (.cells #[.pointer (some ⟨M.d,0,none⟩)] 30)).heap.size=w.heap.size+1:=World.size_alloc ..
 have HZ1:Hid (W1.heap.size=w.heap.size+2):=Lib.hid (by rw[← hW1,World.size_alloc,hs1])
 have hb0:Below w.heap.size w (w.alloc (.cells #[.pointer (some ⟨M.d,0,none⟩)] 30)):=(Below.refl _ _).alloc (Nat.le_refl _) _
 have HB1:Hid (Below w.heap.size w W1):=Lib.hid (by rw[← hW1];exact hb0.alloc (by rw[hs1];omega) _)
 have HBX:Hid (Blk W1 w.heap.size #[.pointer (some ⟨M.d,0,none⟩)] 30):=Lib.hid (by rw[← hW1];exact (Blk.new w _ _).alloc _)
 have HBL:Hid (Blk W1 (w.heap.size+1) #[.pointer (some ⟨M.d,0,none⟩),.int .i64 0] 154):=Lib.hid (by
  have:=Blk.new (w.alloc (.cells #[.pointer (some ⟨M.d,0,none⟩)] 30)) #[.pointer (some ⟨M.d,0,none⟩),.int .i64 0] 154
  rw[← hW1]
  rwa [hs1]at this)
 rw[hW1]
 clear hb0
 have z0:=HBX.out.cells1
 go_wp2_with fail
 refine (HLI.out _ HB1.out).mono ?_
 rintro e w2 ⟨A,c,rfl,hr2,hb2⟩
 have HB2:=Lib.hid (below_then HB1.out.size HB1.out hb2)
 have HCT:=Lib.hid (hasName_any A _ c d.list S.newN w2 rfl hll hr2.rd)
 rw[HNW.out]at HCT
 clear HLI hr2 HNW
 go_wp2_with fail
 refine HCT.out.mono ?_
 rintro e w2' ⟨rfl,rfl⟩
 have HBX2:=Lib.hid (HBX.out.below hb2)
 have HBL2:=Lib.hid (HBL.out.below hb2)
 have HZ2:Hid (w.heap.size+2≤w2.heap.size):=Lib.hid (by have:=hb2.size;have:=HZ1.out;omega)
 have z0:=HBX2.out.cells1
 clear hb2 HB1 HBX HBL HCT HZ1 hW1
 go_wp2_with fail
 refine (HRE.out _ HB2.out).mono ?_
 rintro e w3 ⟨A3,c3,rfl,hr3,hb3⟩
 cases dn with
 | true =>
  have HW3:=Lib.hid (Went.below (below_then HB2.out.size HB2.out hb3) (M.foot d))
  clear hb3 hr3 HRE z0
  go_wp2
  (try simp only[Exit.inBlock,Exit.then])
  refine bodyPost_ret (results_tmp3 rfl _ _ _) rfl ?_
  exact .inl ⟨93,by decide,fun h=>absurd (HDN.out.symm.trans h) (by decide),rfl,HW3.out.wide (fun _ h=>h) (fun _ h=>h.elim)⟩
 | false =>
  have HB3:=Lib.hid (below_then HB2.out.size HB2.out hb3)
  have HBX3:=Lib.hid (HBX2.out.below hb3)
  have HBL3:=Lib.hid (HBL2.out.below hb3)
  have HZ3:Hid (w.heap.size+2≤w3.heap.size):=Lib.hid (by have:=hb3.size;have:=HZ2.out;omega)
  have HRP:=Lib.hid (fun u=>replay0_any A3 c3 hr3.capNone u)
  clear hb3 hr3 HRE HB2 HBX2 HBL2 HZ2 z0
  have z0:=HBX3.out.cells1
  have hbe:Below w3.heap.size w3 (w3.alloc (.cells #[.func (.func 92) #[] #[.pointer (some ⟨w.heap.size,0,none⟩)],.func (.func 94) #[] #[.pointer (some ⟨w.heap.size,0,none⟩)],.func (.func 96) #[.pointer (some ⟨M.d,0,none⟩)] #[]] 157)):=(Below.refl _ _).alloc (Nat.le_refl _) _
  have HB4:=Lib.hid (below_then HB3.out.size HB3.out hbe)
  have HL4:=Lib.hid (show LgAt B (w.heap.size+1) M d 0 (w3.alloc (.cells #[.func (.func 92) #[] #[.pointer (some ⟨w.heap.size,0,none⟩)],.func (.func 94) #[] #[.pointer (some ⟨w.heap.size,0,none⟩)],.func (.func 96) #[.pointer (some ⟨M.d,0,none⟩)] #[]] 157)) from⟨HD.out.below HB4.out,HBL3.out.below hbe,by have:=HD.out.base;omega⟩)
  have HW4:Hid (Went (M.foot d) w (lgFoot (w.heap.size+1) M d) (w3.alloc (.cells #[.func (.func 92) #[] #[.pointer (some ⟨w.heap.size,0,none⟩)],.func (.func 94) #[] #[.pointer (some ⟨w.heap.size,0,none⟩)],.func (.func 96) #[.pointer (some ⟨M.d,0,none⟩)] #[]] 157))):=Lib.hid ((Went.below HB4.out (M.foot d)).wide (fun _ h=>h) (fun k hk=>by
   rcases hk with hk | hk
   ·exact .inl hk
   ·exact .inr (.inr (by omega))))
  have HBX4:=Lib.hid (HBX3.out.below hbe)
  have hx4:Rd (w3.alloc (.cells #[.func (.func 92) #[] #[.pointer (some ⟨w.heap.size,0,none⟩)],.func (.func 94) #[] #[.pointer (some ⟨w.heap.size,0,none⟩)],.func (.func 96) #[.pointer (some ⟨M.d,0,none⟩)] #[]] 157)) (some ⟨w3.heap.size,0,none⟩) 3 1 (#[.func (.func 92) #[] #[.pointer (some ⟨w.heap.size,0,none⟩)],.func (.func 94) #[] #[.pointer (some ⟨w.heap.size,0,none⟩)],.func (.func 96) #[.pointer (some ⟨M.d,0,none⟩)] #[]]:Array Value).toList:=Rd.newRow w3 157 #[.func (.func 92) #[] #[.pointer (some ⟨w.heap.size,0,none⟩)],.func (.func 94) #[] #[.pointer (some ⟨w.heap.size,0,none⟩)],.func (.func 96) #[.pointer (some ⟨M.d,0,none⟩)] #[]] 3 1 rfl
  have hofx:∀ q,w.heap.size≤q→q≠w.heap.size+1→¬ lgFoot (w.heap.size+1) M d q:=fun q hq hne hf=>by
   rcases hf with hf | hf
   ·have:=HD.out.lt hf;omega
   ·exact hne hf
  have HOF:=Lib.hid (hofx w.heap.size (Nat.le_refl _) (by omega))
  have hA4:∀ a,(some ⟨w3.heap.size,0,none⟩:Option Addr)=some a→¬ lgFoot (w.heap.size+1) M d a.block:=fun a ha=>(by cases ha;exact hofx w3.heap.size (by have:=HZ3.out;omega) (by have:=HZ3.out;omega))
  have HFI:=Lib.hid (first3_any B (w.heap.size+1) M d 0 m w.heap.size (some ⟨w3.heap.size,0,none⟩) 3 (fun d=>d.create S.logN) (fun d=>d.sync S.logN) (fun d=>d.syncNames) (w3.alloc (.cells #[.func (.func 92) #[] #[.pointer (some ⟨w.heap.size,0,none⟩)],.func (.func 94) #[] #[.pointer (some ⟨w.heap.size,0,none⟩)],.func (.func 96) #[.pointer (some ⟨M.d,0,none⟩)] #[]] 157)) HL4.out HF.out
   (fun _ _ h=>h.create _) (fun _ _ h=>h.sync _) (fun _ _ h=>h.syncNames) hx4 hA4
   (fun M1 d1 u hl hw hm hf=>op1_any B (w.heap.size+1) M1 d1 0 (m+0) w.heap.size u hl hf (by omega) (by rw[hm];exact hw.blk HBX4.out HOF.out))
   (fun M1 d1 u hl hw hm hf=>op2_any B (w.heap.size+1) M1 d1 0 (m+1) w.heap.size u hl hf (by omega) (by rw[hm];exact hw.blk HBX4.out HOF.out))
   (fun M1 d1 u hl hw hm hf=>by rw[← hm];exact (syncNames_any B M1 d1 u hl.disk (hf.sml (by omega))).mono fun _ _ h=>RetStep.log hl h))
  have HST:Hid (S.steps d [fun d=>d.create S.logN,fun d=>d.sync S.logN,fun d=>d.syncNames]=S.steps d S.firsts):=Lib.hid rfl
  rw[HST.out]at HFI
  obtain⟨d3,k3,code,hst⟩:∃ d3 k3 code,S.steps d S.firsts=(d3,k3,code):=⟨_,_,_,rfl⟩
  have HSS:=Lib.hid hst
  rw[hst]at HFI
  clear hst
  clear hbe hx4 hofx hA4 HOF HBX4 HL4 HBL3 HST
  go_wp2_with fail
  refine HFI.out.mono ?_
  rintro e w5 ⟨rfl,M5,hl5,hw5,hm5⟩
  have HL5:=Lib.hid hl5
  have HW5:=Lib.hid (HW4.out.trans hw5)
  have HM5:=Lib.hid hm5
  clear hl5 hw5 hm5 HFI HW4 z0
  by_cases hc:code=0
  rotate_left
  ·have HC:=Lib.hid hc
   clear HL5 HRP
   go_wp2
   (try simp only[Exit.inBlock,Exit.then])
   refine bodyPost_ret (results_tmp3 rfl _ _ _) rfl ?_
   exact .inl ⟨code,HC.out,fun _=>by rw[HSS.out];exact HC.out,rfl,HW5.out.wide (fun _ h=>h) (fun _ h=>h.elim)⟩
  subst hc
  go_wp2_with fail
  refine (HRP.out _).mono ?_
  rintro e w6 ⟨rfl,hb6⟩
  have hl6:=HL5.out.below hb6
  obtain⟨hl7,hw7⟩:=hl6.counted 0
  have HL7:=Lib.hid hl7
  have HW7:=Lib.hid ((HW5.out.trans (Went.below hb6 _)).trans hw7)
  obtain⟨y0,y1⟩:=hl6.cells
  have f1:=hl6.blk.free 1
  clear hb6 hl6 hl7 hw7 HRP HW5 y0
  go_wp2
  (try simp only[Exit.inBlock,Exit.then])
  refine bodyPost_ret (results_tmp3 rfl _ _ _) rfl ?_
  refine .inr ⟨HDN.out,d3,by rw[HSS.out],by rw[HSS.out],w.heap.size+1,M5,rfl,HL7.out,HW7.out,HM5.out⟩
end Go.Proofs.YthjeglnkgdpijaaGreatDoor
namespace Go.Proofs.YthjeglnkgdpijaaGreatDoor
namespace S
open D (cont Clm)
def born (room:Int):D.Dsk:=(((fresh room).create logN).1.sync logN).1.syncNames.1
theorem born_facts {room:Int} (h0:0≤room):steps (fresh room) firsts=(born room,3,0)∧has (fresh room).list newN=false∧(fresh room).read logN=([],90)∧(∀ nm∈(born room).list,isO nm=false∧nm.size≤4096)∧∀ n:Nat,n≤4096→Inv ⟨born room,0,[],marks n []⟩:=by
 have h:=fresh_calm h0
 have hc:∀ x,cont (fresh room) x=none:=fun _=>rfl
 obtain⟨e1,c1,k1⟩:=h.create log_good (hc _)
 obtain⟨e2,c2,k2⟩:=c1.sync log_good (c:=[]) (by rw[k1,if_pos rfl])
 obtain⟨e3,c3,k3⟩:=c2.syncNames
 have k:∀ x,cont (born room) x=if x=logN then some [] else none:=fun x=>by unfold born;rw[k3,k2,k1,hc]
 refine⟨by simp [steps,firsts,e1,e2,e3,born],rfl,by rw[h.read log_good,hc],fun nm hm=>?_,fun n hn=>⟨c3,⟨[],by show cont (born room) _=_;rw[k,if_pos rfl]⟩,by show cont (born room) _=_;rw[k,if_neg new_log],List.Pairwise.nil,by show (marks n []).length≤_;rw[marks_len];omega,(fun _ h=>by cases h),(fun _ h=>by cases h),fun no hn hi=>?_⟩⟩
 ·have:=c3.mem (x:=nm)
  have hm2:=this.1 hm
  have h3:(cont (born room) nm).isSome=true:=hm2
  rw[k]at h3
  by_cases e:nm=logN
  ·rw[e];exact⟨by decide,by decide⟩
  ·rw[if_neg e]at h3;cases h3
 ·change (cont (born room) _).isSome=true at hi
  rw[k,if_neg (path_log hn)]at hi
  cases hi
theorem born_fit {room:Int} (h:0≤room∧room≤1073741824):D.Fit 3 (born room):=by
 have:=steps_fit firsts firsts_fit (fresh_fit h)
 rw[(born_facts h.1).1]at this
 exact this
theorem marks_rep (n:Nat):marks n []=List.replicate n false:=by
 unfold marks
 have:=List.map_const' (l:=List.range n) (b:=false)
 rw[List.length_range]at this
 exact this
end S
end Go.Proofs.YthjeglnkgdpijaaGreatDoor
