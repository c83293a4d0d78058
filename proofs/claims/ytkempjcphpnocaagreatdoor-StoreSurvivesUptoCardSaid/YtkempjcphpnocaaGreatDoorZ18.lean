/- The log's records: what is written is read back, one by one and all of them. No program here. The walks of the store's hexPair and Path. Condition: a number below 4096. How far a store's steps take its disk. No program here. -/
import Derived.Test.YtkempjcphpnocaaGreatDoorZ13
import Derived.Test.YtkempjcphpnocaaGreatDoorStoreR
import Derived.Laws.BitsAllLaws
import Derived.Laws.BitsLemmas
import Derived.Laws.IdiomStrings
namespace Go.Proofs.YtkempjcphpnocaaGreatDoor
namespace R
theorem code_facts {r:Rc} (h:code r=0):(r.op=1∨r.op=2)∧0≤r.seq∧r.seq≤4294967295∧0≤r.no∧r.no≤4294967295∧r.id.size≤4096:=by
 unfold code at h
 split at h
 ·rename_i h1
  split at h
  ·rename_i h2
   unfold word at h1
   simp only[Bool.and_eq_true,Bool.or_eq_true,decide_eq_true_eq]at h1
   exact⟨h1.1.1,h1.1.2.1,h1.1.2.2,h1.2.1,h1.2.2,h2⟩
  ·cases h
 ·cases h
theorem code_ok {seq op no:Int} {id:ByteArray} (h1:op=1∨op=2) (h2:0≤seq∧seq≤4294967295) (h3:0≤no∧no≤4294967295) (h4:id.size≤4096):code ⟨seq,op,no,id⟩=0:=by
 rw[code_id h1 (decide_eq_true h2) (decide_eq_true h3),if_pos h4]
theorem drop_at {a b:List UInt8} {k:Nat} (h:a.length=k):(a++b).drop k=b:=by
 rw[← h]
 exact List.drop_left
theorem take_at {a b:List UInt8} {k:Nat} (h:a.length=k):(a++b).take k=a:=by
 rw[← h]
 exact List.take_left
theorem dec_enc {r:Rc} (h:code r=0) (rest:List UInt8):dec (enc r++rest)=(r,r.id.size+15,0):=by
 obtain⟨h1,h2,h3,h4,h5,h6⟩:=code_facts h
 rw[enc_good h]
 generalize hS:beN (sumN (body r)) 4=S
 have hSl:S.length=4:=by rw[← hS,beN_len]
 have hSv:O.val S=sumN (body r):=by
  rw[← hS]
  exact O.val_num (sumN_lt _)
 unfold body at hSv ⊢
 generalize hA:beN r.id.size 2=A at *
 generalize hQ:beN r.seq.toNat 4=Q at *
 generalize hN:beN r.no.toNat 4=N at *
 have hAl:A.length=2:=by rw[← hA,beN_len]
 have hQl:Q.length=4:=by rw[← hQ,beN_len]
 have hNl:N.length=4:=by rw[← hN,beN_len]
 have hAv:O.val A=r.id.size:=by rw[← hA];exact O.val_num (by omega)
 have hQv:O.val Q=r.seq.toNat:=by rw[← hQ];exact O.val_num (by omega)
 have hNv:O.val N=r.no.toNat:=by rw[← hN];exact O.val_num (by omega)
 have hil:(L r.id).length=r.id.size:=(L_size r.id).symm
 generalize hx:UInt8.ofNat (192+r.op.toNat)=x at *
 have e:(x::(A++(Q++(N++L r.id))))++S++rest=x::(A++(Q++(N++(L r.id++(S++rest))))):=by simp
 rw[e]
 have hl:(x::(A++(Q++(N++(L r.id++(S++rest)))))).length=r.id.size+15+rest.length:=by
  simp only[List.length_cons,List.length_append]
  omega
 have t1:((x::(A++(Q++(N++(L r.id++(S++rest)))))).drop 1).take 2=A:=by
  rw[List.drop_one,List.tail_cons,take_at hAl]
 have t2:((x::(A++(Q++(N++(L r.id++(S++rest)))))).drop (r.id.size+11)).take 4=S:=by
  rw[show x::(A++(Q++(N++(L r.id++(S++rest)))))=(x::(A++(Q++(N++L r.id))))++(S++rest) by simp,drop_at (by simp only[List.length_cons,List.length_append];omega),take_at hSl]
 have t3:(x::(A++(Q++(N++(L r.id++(S++rest)))))).take (r.id.size+11)=x::(A++(Q++(N++L r.id))):=by
  rw[show x::(A++(Q++(N++(L r.id++(S++rest)))))=(x::(A++(Q++(N++L r.id))))++(S++rest) by simp,take_at (by simp only[List.length_cons,List.length_append];omega)]
 have t4:((x::(A++(Q++(N++(L r.id++(S++rest)))))).drop 3).take 4=Q:=by
  rw[show x::(A++(Q++(N++(L r.id++(S++rest)))))=(x::A)++(Q++(N++(L r.id++(S++rest)))) by simp,drop_at (by simp only[List.length_cons];omega),take_at hQl]
 have t5:((x::(A++(Q++(N++(L r.id++(S++rest)))))).drop 7).take 4=N:=by
  rw[show x::(A++(Q++(N++(L r.id++(S++rest)))))=(x::(A++Q))++(N++(L r.id++(S++rest))) by simp,drop_at (by simp only[List.length_cons,List.length_append];omega),take_at hNl]
 have t6:((x::(A++(Q++(N++(L r.id++(S++rest)))))).drop 11).take r.id.size=L r.id:=by
  rw[show x::(A++(Q++(N++(L r.id++(S++rest)))))=(x::(A++(Q++N)))++(L r.id++(S++rest)) by simp,drop_at (by simp only[List.length_cons,List.length_append];omega),take_at hil]
 have hxop:(x.toNat:Int) - 192=r.op∧(x=193∨x=194):=by
  rw[← hx]
  rcases h1 with h1 | h1
  ·rw[h1];exact⟨rfl,.inl rfl⟩
  ·rw[h1];exact⟨rfl,.inr rfl⟩
 unfold dec
 rw[if_neg (by rw[hl];omega),if_neg (by simp only[List.headD_cons];rcases hxop.2 with h | h<;>simp [h]),if_neg (by rw[hl];omega),t1,hAv,if_neg (by omega),if_neg (by rw[hl];omega),t2,t3,hSv,if_neg (by simp),t4,t5,t6,hQv,hNv]
 have hid:B (L r.id)=r.id:=by
  apply D.L_inj
  rw[L_B]
 rw[hid,List.headD_cons,hxop.1,Int.toNat_of_nonneg h2,Int.toNat_of_nonneg h4]
def encs (rs:List Rc):List UInt8:=rs.flatMap enc
def Seqd:Nat→List Rc→Prop
 | _,[]=>True
 | k,r::t=>r.seq=k∧Seqd (k+1) t
structure Good (rs:List Rc):Prop where
 code:∀ r∈rs,R.code r=0
 seq:Seqd 0 rs
theorem seqd_snoc:∀ {rs:List Rc} {k:Nat} {r:Rc},Seqd k rs→r.seq=((k+rs.length:Nat):Int)→Seqd k (rs++[r])
 | [],k,r,_,h=>⟨by simpa using h,trivial⟩
 | x::t,k,r,h,hr=>⟨h.1,seqd_snoc h.2 (by rw[hr,List.length_cons];congr 1;omega)⟩
theorem recs_encs:∀ (rs:List Rc) (k at_ f:Nat),Seqd k rs→(∀ r∈rs,code r=0)→rs.length≤f →
  (recs f (encs rs) at_ k).map (·.1)=rs∧((recs f (encs rs) at_ k).getLast?.map (·.2)).getD at_=at_+(encs rs).length
 | [],k,at_,f,_,_,_=>by
  have:recs f (encs []) at_ k=[]:=by
   cases f with
   | zero=>rfl
   | succ f=>exact if_pos (.inr (.inl rfl))
  rw[this]
  exact⟨rfl,rfl⟩
 | r::t,k,at_,0,_,_,h=>by simp at h
 | r::t,k,at_,f+1,hs,hc,hl=>by
  have e:dec (encs (r::t))=(r,r.id.size+15,0):=by
   unfold encs
   rw[List.flatMap_cons]
   exact dec_enc (hc r (by simp)) _
  have hd:(encs (r::t)).drop (r.id.size+15)=encs t:=by
   unfold encs
   rw[List.flatMap_cons]
   exact drop_at (enc_len r (hc r (by simp)))
  have e2:recs (f+1) (encs (r::t)) at_ k=(r,at_+(r.id.size+15))::recs f (encs t) (at_+(r.id.size+15)) (k+1):=by
   rw[recs,e,hd]
   dsimp only
   rw[if_neg]
   rintro (h | h | h)
   ·exact h rfl
   ·omega
   ·exact h hs.1
  obtain⟨i1,i2⟩:=recs_encs t (k+1) (at_+(r.id.size+15)) f hs.2 (fun x hx=>hc x (List.mem_cons_of_mem _ hx)) (by simp at hl;omega)
  rw[e2]
  refine⟨by rw[List.map_cons,i1],?_⟩
  have hlen:(encs (r::t)).length=(r.id.size+15)+(encs t).length:=by
   unfold encs
   rw[List.flatMap_cons,List.length_append,enc_len r (hc r (by simp))]
  have e3:at_+(r.id.size+15+(encs t).length)=at_+(r.id.size+15)+(encs t).length:=by omega
  rw[hlen,e3,← i2]
  cases hr:recs f (encs t) (at_+(r.id.size+15)) (k+1) with
  | nil=>rfl
  | cons y l=>rw[List.getLast?_cons_cons];simp [List.getLast?_cons]
theorem len_encs:∀ (rs:List Rc),(∀ r∈rs,code r=0)→rs.length≤(encs rs).length∧(encs rs).length≤4111 * rs.length
 | [],_=>⟨Nat.le_refl _,Nat.le_refl _⟩
 | r::t,h=>by
  obtain⟨h1,h2⟩:=len_encs t (fun x hx=>h x (List.mem_cons_of_mem _ hx))
  have h3:=enc_len r (h r (by simp))
  have h4:=(code_facts (h r (by simp))).2.2.2.2.2
  unfold encs at *
  rw[List.flatMap_cons,List.length_append,List.length_cons]
  omega
theorem replay_encs {rs:List Rc} (h:Good rs):replay (encs rs)=(rs,(encs rs).length):=by
 obtain⟨h1,h2⟩:=recs_encs rs 0 0 (encs rs).length h.seq h.code (len_encs rs h.code).1
 unfold replay
 rw[h1,h2,Nat.zero_add]
def renum:Nat→List Rc→List Rc
 | _,[]=>[]
 | k,r::t=>{ r with seq:=k }::renum (k+1) t
theorem renum_len:∀ (k:Nat) (l:List Rc),(renum k l).length=l.length
 | _,[]=>rfl
 | k,_::t=>congrArg (·+1) (renum_len (k+1) t)
theorem renum_seq:∀ (k:Nat) (l:List Rc),Seqd k (renum k l)
 | _,[]=>trivial
 | k,_::t=>⟨rfl,renum_seq (k+1) t⟩
theorem renum_code:∀ (l:List Rc) (k:Nat),(∀ r∈l,r.seq=0∧code r=0)→k+l.length≤4294967295→∀ r∈renum k l,code r=0
 | [],_,_,_,r,hr=>by cases hr
 | x::t,k,h,hk,r,hr=>by
  simp only[List.length_cons]at hk
  rcases List.mem_cons.1 hr with rfl | hr
  ·obtain⟨h1,h2,h3,h4,h5,h6⟩:=code_facts (h x (by simp)).2
   exact code_ok h1 (by omega) ⟨h4,h5⟩ h6
  ·exact renum_code t (k+1) (fun y hy=>h y (List.mem_cons_of_mem _ hy)) (by omega) r hr
theorem encAll_renum:∀ (l:List Rc) (k:Nat) (b:List UInt8),(∀ r∈renum k l,code r=0)→encAll l k b=(b++encs (renum k l),0)
 | [],_,b,_=>by simp [encAll,encs,renum]
 | r::t,k,b,h=>by
  have h0:code { r with seq:=(k:Int) }=0:=h _ (by simp [renum])
  rw[encAll,h0,if_neg (by decide),encAll_renum t (k+1) _ (fun x hx=>h x (by rw[renum];exact List.mem_cons_of_mem _ hx)),renum]
  unfold encs
  rw[List.flatMap_cons,List.append_assoc]
end R
namespace S
def tstep (t:D.NM) (r:R.Rc):D.NM:=if r.op=1 then D.put t r.id r.no.toNat else D.del t r.id
theorem tabOf_snoc (rs:List R.Rc) (r:R.Rc):tabOf (rs++[r])=tstep (tabOf rs) r:=by
 unfold tabOf
 rw[List.foldl_append]
 rfl
theorem put_last:∀ {l:D.NM} {nm:ByteArray} {no:Nat},(∀ p∈l,D.ltB p.1 nm=true)→D.put l nm no=l++[(nm,no)]:=by
 intro l nm no h
 have e1:D.del l nm=l:=by
  unfold D.del
  rw[List.filter_eq_self]
  intro p hp
  have:=h p hp
  simp only[decide_eq_true_eq]
  intro e
  rw[e,D.lt_irrefl]at this
  cases this
 unfold D.put
 rw[e1]
 clear e1
 induction l with
 | nil=>rfl
 | cons p r ih =>
  have h1:=h p (by simp)
  rw[D.ins,if_neg,ih (fun q hq=>h q (List.mem_cons_of_mem _ hq))]
  ·rfl
  ·intro h2
   have:=D.lt_trans h1 h2
   rw[D.lt_irrefl]at this
   cases this
theorem tab_fold:∀ (t acc:D.NM) (k:Nat),D.Up (acc++t)→(R.renum k (records t)).foldl tstep acc=acc++t
 | [],acc,k,_=>by simp [records,R.renum]
 | p::r,acc,k,h=>by
  have h1:=List.pairwise_append.1 h
  have e:tstep acc { (⟨0,1,p.2,p.1⟩:R.Rc) with seq:=(k:Int) }=acc++[p]:=by
   unfold tstep
   rw[if_pos rfl]
   show D.put acc p.1 ((p.2:Int)).toNat=_
   rw[put_last (fun q hq=>h1.2.2 q hq p (by simp)),Int.toNat_natCast]
  show (R.renum (k+1) (records r)).foldl tstep (tstep acc _)=_
  rw[e,tab_fold r (acc++[p]) (k+1) (by rw[List.append_assoc];exact h)]
  simp
theorem tab_records {t:D.NM} (h:D.Up t):tabOf (R.renum 0 (records t))=t:=by
 have:=tab_fold t [] 0 h
 rw[List.nil_append]at this
 exact this
theorem records_good {t:D.NM} (ht:∀ p∈t,p.2 < 4096∧p.1.size≤4096) (hl:t.length≤4294967295):R.Good (R.renum 0 (records t)):=by
 refine⟨R.renum_code _ 0 ?_ ?_,R.renum_seq _ _⟩
 ·intro r hr
  obtain⟨p,hp,rfl⟩:=List.mem_map.1 hr
  have:=ht p hp
  exact⟨rfl,R.code_ok (.inl rfl) (by decide) (by omega) this.2⟩
 ·unfold records
  rw[List.length_map]
  omega
end S
end Go.Proofs.YtkempjcphpnocaaGreatDoor
namespace Go.Proofs.YtkempjcphpnocaaGreatDoor
open Go.RowKit
theorem i64_and15 (v:Int) (h0:0≤v) (h1:v < 64):bits .and .i64 v 15=v % 16:=by
 obtain⟨n,rfl⟩:=Int.eq_ofNat_of_zero_le h0
 have h:∀ m:Fin 64,bits .and .i64 (m.1:Int) 15=(m.1:Int) % 16:=by decide
 exact h ⟨n,by omega⟩
def hexD (i:Int):UInt8:=(#[48,49,50,51,52,53,54,55,56,57,97,98,99,100,101,102]:Array UInt8).getD i.toNat 0
theorem hexD_at (i:Int) (h:i.toNat < ({ data:=#[48,49,50,51,52,53,54,55,56,57,97,98,99,100,101,102] }:ByteArray).size):({ data:=#[48,49,50,51,52,53,54,55,56,57,97,98,99,100,101,102] }:ByteArray)[i.toNat]'h=hexD i:=by
 have e:({ data:=#[48,49,50,51,52,53,54,55,56,57,97,98,99,100,101,102] }:ByteArray).data[i.toNat]?=some (({ data:=#[48,49,50,51,52,53,54,55,56,57,97,98,99,100,101,102] }:ByteArray)[i.toNat]'h):=Array.getElem?_eq_getElem h
 unfold hexD
 rw[Array.getD_eq_getD_getElem?,e]
 rfl
theorem hexD_hx (n:Nat) (h:n < 16):hexD n=S.hx n:=by
 have:∀ m:Fin 16,hexD (m.1:Int)=S.hx m.1:=by decide
 exact this ⟨n,h⟩
def hexT (v:Int):ByteArray:=⟨#[hexD (v / 16),hexD (v % 16)]⟩
theorem conv2_any (w:World) (x y:UInt8):(convert 26 9 (.slice (some ⟨w.heap.size,0,none⟩) 2 2)).run Tryz.prog ((w.alloc (.cells #[.int .u8 x.toNat,.int .u8 y.toNat] 5)).drew) =
  .ok (.string ⟨#[x,y]⟩) ((w.alloc (.cells #[.int .u8 x.toNat,.int .u8 y.toNat] 5)).drew):=by
 refine run_convert_bytes_back _ 26 9 5 ⟨w.heap.size,0,none⟩ 2 [x,y] Tryz.underlying26 Tryz.underlying5 Tryz.underlying9 ?_
 intro j hj
 match j,hj with
 | 0,_=>simp [Addr.add]
 | 1,_=>simp [Addr.add]
set_option maxHeartbeats 400000 in
theorem hexPair_any (v:Int) (w:World) (h0:0≤v) (h1:v < 64):Calls Tryz.prog 53 #[.int .i64 v] w (RetS w (hexT v)):=by
 have ha:=i64_and15 v h0 h1
 have h2:0≤v / 16:=by omega
 have h3:v / 16 < 16:=by omega
 have h4:0≤v % 16:=by omega
 have h5:v % 16 < 16:=by omega
 have hcv:=conv2_any w
 have e1:(({ data:=#[48,49,50,51,52,53,54,55,56,57,97,98,99,100,101,102] }:ByteArray)[(v / 16).toNat]'(by show (v / 16).toNat < 16;omega))=hexD (v / 16):=hexD_at _ _
 have e2:(({ data:=#[48,49,50,51,52,53,54,55,56,57,97,98,99,100,101,102] }:ByteArray)[(v % 16).toNat]'(by show (v % 16).toNat < 16;omega))=hexD (v % 16):=hexD_at _ _
 go_enter Tryz.func53,Tryz.ntmps53
 go_wp2
 go_region
 go_wp2
 go_ret
 exact⟨rfl,(((Below.refl _ _).alloc (Nat.le_refl _) _).drew)⟩
set_option maxHeartbeats 400000 in
theorem path_any (no:Nat) (w:World) (h:no < 4096):Calls Tryz.prog 25 #[.int .i64 no] w (RetS w (S.path no)):=by
 obtain⟨v,hv⟩:∃ v:Int,v=no:=⟨_,rfl⟩
 have h0:0≤v:=by omega
 have h1:v < 4096:=by omega
 have h0i:¬ v < 0:=by omega
 have h1i:¬ v≥4096:=by omega
 have h2:0≤v / 64:=by omega
 have h3:v / 64 < 64:=by omega
 have h4:0≤v % 64:=by omega
 have h5:v % 64 < 64:=by omega
 have z1:(hexT (v / 64)).size≤2:=Nat.le_refl 2
 have z2:(hexT (v % 64)).size≤2:=Nat.le_refl 2
 have HP1:=Lib.hid (fun u:World=>hexPair_any (v / 64) u (by omega) (by omega))
 have HP2:=Lib.hid (fun u:World=>hexPair_any (v % 64) u (by omega) (by omega))
 have HV:Hid (S.path no=⟨#[111,47]⟩++hexT (v / 64)++⟨#[47]⟩++hexT (v % 64)):=Lib.hid (by
  rw[S.path_at h]
  have a1:hexD (v / 64 / 16)=S.hx (no / 1024):=by rw[show v / 64 / 16=((no / 1024:Nat):Int) by omega];exact hexD_hx _ (by omega)
  have a2:hexD (v / 64 % 16)=S.hx (no / 64 % 16):=by rw[show v / 64 % 16=((no / 64 % 16:Nat):Int) by omega];exact hexD_hx _ (by omega)
  have a3:hexD (v % 64 / 16)=S.hx (no % 64 / 16):=by rw[show v % 64 / 16=((no % 64 / 16:Nat):Int) by omega];exact hexD_hx _ (by omega)
  have a4:hexD (v % 64 % 16)=S.hx (no % 16):=by rw[show v % 64 % 16=((no % 16:Nat):Int) by omega];exact hexD_hx _ (by omega)
  unfold hexT
  rw[a1,a2,a3,a4]
  rfl)
 rw[← hv,HV.out]
 generalize hexT (v / 64)=t1 at *
 generalize hexT (v % 64)=t2 at *
 clear hv HV h
 go_enter Tryz.func25,Tryz.ntmps25
 go_wp2_with fail
 refine (HP1.out _).mono ?_
 rintro e w1 ⟨rfl,hb1⟩
 go_wp2_with fail
 refine (HP2.out _).mono ?_
 rintro e w2 ⟨rfl,hb2⟩
 go_wp2
 go_ret
 exact⟨rfl,below_then hb1.size hb1 hb2⟩
end Go.Proofs.YtkempjcphpnocaaGreatDoor
namespace Go.Proofs.YtkempjcphpnocaaGreatDoor
namespace S
open D (Fit)
variable {k:Nat} {d:D.Dsk} {s:Sto}
theorem steps_fit:∀ (l:List (D.Dsk→D.Dsk × Int)) {k:Nat} {d:D.Dsk},(∀ f∈l,∀ (k:Nat) (d:D.Dsk),Fit k d→Fit (k+1) (f d).1)→Fit k d→Fit (k+l.length) (steps d l).1
 | [],_,_,_,h=>h
 | f::r,k,d,hf,h=>by
  have h1:=hf f (by simp) k d h
  unfold steps
  rw[List.length_cons]
  split
  ·exact h1.mono (by omega)
  ·exact (steps_fit r (fun g hg=>hf g (List.mem_cons_of_mem _ hg)) h1).mono (by omega)
theorem moves_fit (b:List UInt8):∀ f∈moves b,∀ (k:Nat) (d:D.Dsk),Fit k d→Fit (k+1) (f d).1:=by
 intro f hf k d h
 unfold moves at hf
 simp only[List.mem_cons,List.not_mem_nil,or_false]at hf
 rcases hf with rfl | rfl | rfl | rfl
 ·exact h.create _
 ·exact h.append _ _
 ·exact h.sync _
 ·exact h.rename _ _
theorem firsts_fit:∀ f∈firsts,∀ (k:Nat) (d:D.Dsk),Fit k d→Fit (k+1) (f d).1:=by
 intro f hf k d h
 unfold firsts at hf
 simp only[List.mem_cons,List.not_mem_nil,or_false]at hf
 rcases hf with rfl | rfl | rfl
 ·exact h.create _
 ·exact h.sync _
 ·exact h.syncNames
theorem rewrite_fit (h:Fit k d) (count:Nat) (list:List R.Rc):Fit (k+5) (rewrite d count list).1:=by
 have h1:=steps_fit (moves (R.encAll list 0 []).1) (moves_fit _) h
 have h2:(moves (R.encAll list 0 []).1).length=4:=rfl
 rw[h2]at h1
 unfold rewrite
 split
 ·exact h.mono (by omega)
 ·split
  ·exact h1.syncNames
  ·split
   ·exact h1.mono (by omega)
   ·exact h1.remove _
theorem add_fit (h:Fit k d) (count:Nat) (op no:Int) (id:ByteArray):Fit (k+2) (add d count op no id).1:=by
 unfold add
 split
 ·exact h.mono (by omega)
 ·split
  ·exact (h.append _ _).mono (by omega)
  ·exact (h.append _ _).sync _
theorem logOpen_fit (h:Fit k d):Fit (k+9) (logOpen d).1:=by
 unfold logOpen
 have hx:Fit (k+1) (if has d.list newN then d.remove newN else (d,0)).1:=by
  split
  ·exact h.remove _
  ·exact h.mono (by omega)
 generalize (if has d.list newN then d.remove newN else (d,0))=x at *
 dsimp only
 split
 ·exact hx.mono (by omega)
 have hy:Fit (k+4) (if (x.1.read logN).2=90 then ((steps x.1 firsts).1,(steps x.1 firsts).2.2) else (x.1,(x.1.read logN).2)).1:=by
  split
  ·exact steps_fit firsts firsts_fit hx
  ·exact hx.mono (by omega)
 generalize (if (x.1.read logN).2=90 then ((steps x.1 firsts).1,(steps x.1 firsts).2.2) else (x.1,(x.1.read logN).2))=y at *
 split
 ·exact hy.mono (by omega)
 split
 ·have hz:=rewrite_fit hy 0 (R.replay (x.1.read logN).1).1
  split
  ·exact hz
  ·exact hz
 ·exact hy.mono (by omega)
theorem tidy_fit (h:Fit k s.d):Fit (k+5) s.tidy.d:=by
 unfold Sto.tidy
 split
 ·exact h.mono (by omega)
 ·exact rewrite_fit h _ _
theorem lay_fit (h:Fit k d) (p:ByteArray) (b:List UInt8):Fit (k+5) (lay d p b).1:=by
 unfold lay
 have hx:Fit (k+1) (if has d.list p then d.remove p else (d,0)).1:=by
  split
  ·exact h.remove _
  ·exact h.mono (by omega)
 generalize (if has d.list p then d.remove p else (d,0))=x at *
 dsimp only
 split
 ·exact hx.mono (by omega)
 ·split
  ·exact (hx.create _).mono (by omega)
  ·split
   ·exact ((hx.create _).append _ _).mono (by omega)
   ·split
    ·exact (((hx.create _).append _ _).sync _).mono (by omega)
    ·exact (((hx.create _).append _ _).sync _).syncNames
theorem free_fit (h:Fit k s.d) (no:Nat):Fit (k+1) (s.free no).d:=h.remove _
theorem entered_fit (no:Nat) (id:ByteArray) (x:D.Dsk × Bool × Int) (h:Fit k x.1):Fit (k+8) (s.entered no id x).1.d:=by
 unfold Sto.entered
 have hy:Fit (k+2) (if x.2.2=0 then add x.1 s.count 1 no id else (x.1,s.count,x.2.2):D.Dsk × Nat × Int).1:=by
  split
  ·exact add_fit h _ _ _ _
  ·exact h.mono (by omega)
 generalize (if x.2.2=0 then add x.1 s.count 1 no id else (x.1,s.count,x.2.2):D.Dsk × Nat × Int)=y at *
 dsimp only
 split
 ·split
  ·exact (hy.remove _).mono (by omega)
  ·exact hy.mono (by omega)
 ·refine tidy_fit (k:=k+3) ?_
  show Fit (k+3) (({ s with d:=y.1,count:=y.2.1 }:Sto).freed id).d
  unfold Sto.freed
  split
  ·exact free_fit (s:={ s with d:=y.1,count:=y.2.1 }) hy _
  ·exact hy.mono (by omega)
theorem put_fit (h:Fit k s.d) (E:O.Ent):Fit (k+13) (s.put E).1.d:=by
 unfold Sto.put
 split
 ·exact h.mono (by omega)
 ·split
  ·exact h.mono (by omega)
  ·split
   ·exact h.mono (by omega)
   ·exact entered_fit _ _ _ (lay_fit h _ _)
end S
end Go.Proofs.YtkempjcphpnocaaGreatDoor
