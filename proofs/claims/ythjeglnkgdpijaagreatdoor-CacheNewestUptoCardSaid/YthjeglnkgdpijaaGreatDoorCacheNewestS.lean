/- CacheNewest holds wherever what it reads is of at most 1,048,576 bytes and numbers: of two entries that both answer a request the one that came later is found. Conditions: the tables of the library that the row lists. -/
import Derived.Test.YthjeglnkgdpijaaGreatDoorCards
import Derived.Test.YthjeglnkgdpijaaGreatDoorTie
import Derived.Test.YthjeglnkgdpijaaGreatDoorCacheU
import Derived.Carry
import Derived.ChangeMaps
set_option maxRecDepth 100000
namespace Go.Proofs.YthjeglnkgdpijaaGreatDoor
open Go.ChangeShapes Go.WideShapes Go.ChangeAt Go.RowKit
section
variable {H:Type} {enc:TypeId × Value→H} {P:Program} {w:World} {base:Nat} {spare:Nat→Bool} {held:Bool}
theorem trodAll_five {t t1 t2 t3 t4:TypeId} {args:Array Value} {ds:List (DataW H)} {ps:List MemPlace} (h:DataW.TrodAll enc P w base spare held [t,t1,t2,t3,t4] args.toList ds ps) :
  ∃ v v1 v2 v3 v4 d d1 d2 d3 d4 p p1 p2 p3 p4,args=#[v,v1,v2,v3,v4]∧ds=[d,d1,d2,d3,d4]∧ps=p++p1++p2++p3++p4∧DataW.Trod enc P w base spare held t v d p∧DataW.Trod enc P w base spare held t1 v1 d1 p1 ∧
   DataW.Trod enc P w base spare held t2 v2 d2 p2∧DataW.Trod enc P w base spare held t3 v3 d3 p3∧DataW.Trod enc P w base spare held t4 v4 d4 p4:=by
 obtain⟨v,vs,d,ds',p,q,hargs,rfl,rfl,hd,h1⟩:=trodAll_cons h
 obtain⟨v1,vs1,d1,ds1,p1,q1,rfl,rfl,rfl,hd1,h2⟩:=trodAll_cons h1
 obtain⟨v2,vs2,d2,ds2,p2,q2,rfl,rfl,rfl,hd2,h3⟩:=trodAll_cons h2
 obtain⟨v3,vs3,d3,ds3,p3,q3,rfl,rfl,rfl,hd3,h4⟩:=trodAll_cons h3
 obtain⟨v4,vs4,d4,ds4,p4,q4,rfl,rfl,rfl,hd4,h5⟩:=trodAll_cons h4
 obtain⟨rfl,rfl,rfl⟩:=trodAll_nil h5
 exact⟨v,v1,v2,v3,v4,d,d1,d2,d3,d4,p,p1,p2,p3,p4,by cases args;simp_all,rfl,by simp,hd,hd1,hd2,hd3,hd4⟩
theorem trodAll_mk5 {t t1 t2 t3 t4:TypeId} {v v1 v2 v3 v4:Value} {d d1 d2 d3 d4:DataW H} {p p1 p2 p3 p4:List MemPlace} (h:DataW.Trod enc P w base spare held t v d p) (h1:DataW.Trod enc P w base spare held t1 v1 d1 p1)
  (h2:DataW.Trod enc P w base spare held t2 v2 d2 p2) (h3:DataW.Trod enc P w base spare held t3 v3 d3 p3) (h4:DataW.Trod enc P w base spare held t4 v4 d4 p4):DataW.TrodAll enc P w base spare held [t,t1,t2,t3,t4] [v,v1,v2,v3,v4] [d,d1,d2,d3,d4] (p++(p1++(p2++(p3++p4)))) :=
 ⟨p,p1++(p2++(p3++p4)),h,trodAll_mk4 h1 h2 h3 h4,rfl⟩
end
theorem cacheNewest_contract (H:Type) (enc:TypeId × Value→H) (W:World) (base:Nat) (args:Array Value) (ds gs:List (DataW H)) (before:List MemPlace)
  (hval:∀ (j:Nat) t v,Tryz.f5.params[j]?=some t→args[j]?=some v→Value.okWide Tryz.prog W .any base t v)
  (hW:DataW.Whole enc Tryz.prog Tryz.f5.params.toList Rows.cacheNewestSpec.vars false W args.toList ds gs before) (hk:Rows.uptoSmall H (ds++gs)=true) (hL:laidMetH Tryz.prog Rows.cacheNewestUptoRow.laid W) (hsh:W.ShapedOpen Tryz.prog) :
  Calls Tryz.prog 5 args W fun e W'=>∃ v,e=.returned v∧Rows.cacheNewestSpec.post enc Tryz.prog Tryz.f5 false true false false W args v W':=by
 have hW':=hW
 obtain⟨p,q,hA0,hV,rfl,hfz,hnd⟩:=hW
 have hA:DataW.TrodAll enc Tryz.prog W 0 (fun _=>true) true Tryz.f5.params.toList args.toList ds p:=hA0
 rw[Tryz.params5]at hA hval
 obtain⟨v0,v1,v2,v3,v4,d0,d1,d2,d3,d4,p0,p1,p2,p3,p4,rfl,rfl,rfl,h0,h1,h2,h3,h4⟩:=trodAll_five hA
 obtain⟨rfl,rfl⟩:=trodVars_none hV
 have h0k:=h0
 obtain⟨s0,rfl,rfl,rfl,_⟩:=Go.ChangeMaps.open_string Tryz.underlying9 (hval 0 9 v0 rfl rfl) h0
 have h1k:=h1
 obtain⟨m1,rfl,rfl,rfl,wm1⟩:=open_int Tryz.underlying3 (hval 1 3 v1 rfl rfl) h1
 have hm1:=int_bounds wm1
 have h2k:=h2
 obtain⟨m2,rfl,rfl,rfl,wm2⟩:=open_int Tryz.underlying3 (hval 2 3 v2 rfl rfl) h2
 have hm2:=int_bounds wm2
 obtain⟨A3,n3,c3,bs3,rfl,hl3,hx3,hc3,hbk3,hnil3,hspot3⟩:=open_bytes (hval 3 39 v3 rfl rfl) h3
 have h4k:=h4
 obtain⟨m4,rfl,rfl,rfl,wm4⟩:=open_int Tryz.underlying3 (hval 4 3 v4 rfl rfl) h4
 have hm4:=int_bounds wm4
 subst hl3
 clear hA0
 simp only[List.append_nil]at hW' hk
 have hlt:∀ x∈p3,x.block < W.heap.size:=fun x hx=>by simpa using hW'.lt x (by simpa using hx)
 have hb:s0.size≤1048576∧bs3.length≤1048576:=by
  have h:Rows.uptoBulkAll [DataW.lit (.string s0.data.toList),DataW.lit (.int .i64 m1),DataW.lit (.int .i64 m2),d3,DataW.lit (.int .i64 m4)]≤1048576:=of_decide_eq_true hk
  simp only[Rows.uptoBulkAll,Rows.uptoBulk,Array.length_toList]at h
  have:s0.size=s0.data.size:=rfl
  omega
 obtain⟨hb0,hb3⟩:=hb
 have ht:TabOk W:=tab_of hL (by kernel_rfl)
 have hlib:LibOk W:=lib_of hL hsh (by kernel_rfl)
 have he:ErrOk W:=err_of hL (by kernel_rfl) (by kernel_rfl)
 refine (cacheNewest_any s0 m1 m2 A3 c3 bs3 m4 W (by omega) hx3 ⟨hlib,he,ht⟩).mono fun e W' ⟨he,hw⟩=>?_
 subst he
 exact⟨_,rfl,post_of_below (pa:=p3) (pv:=[]) hW' (fun _ _ _=>trodAll_mk1 (shut_bool Tryz.underlying4 true))
  (fun sp hsp=>by
   have k0:=again (by kernel_rfl) (of_decide_eq_true (by kernel_rfl)) h0k hw (fun x hx=>by cases hx) sp (fun x hx=>by cases hx)
   have k1:=again (by kernel_rfl) (of_decide_eq_true (by kernel_rfl)) h1k hw (fun x hx=>by cases hx) sp (fun x hx=>by cases hx)
   have k2:=again (by kernel_rfl) (of_decide_eq_true (by kernel_rfl)) h2k hw (fun x hx=>by cases hx) sp (fun x hx=>by cases hx)
   have k3:=again (by kernel_rfl) (of_decide_eq_true (by kernel_rfl)) h3 hw (fun x hx=>hlt x (by simp [hx])) sp (fun x hx=>hsp x (by simp [hx]))
   have k4:=again (by kernel_rfl) (of_decide_eq_true (by kernel_rfl)) h4k hw (fun x hx=>by cases hx) sp (fun x hx=>by cases hx)
   have:=trodAll_mk5 k0 k1 k2 k3 k4
   simp only[List.append_nil,List.nil_append]at this
   exact this) (fun _ _=>rfl) (by simp)
  hw (ok_one (by kernel_rfl) rfl (okWide_bool_mk Tryz.underlying4 true))⟩
theorem cacheNewest_met (os:Os):laidMet Tryz.prog Rows.cacheNewestUptoRow.laid ((World.laidAll Tryz.prog os Rows.cacheNewestUptoRow.laid).forCall (fun _ _=>0) ⟨#[],#[.string ⟨#[]⟩,.int .i64 0,.int .i64 0,.slice none 0 0,.int .i64 0],[]⟩).memory :=
 laidMet_laidAll _ (by kernel_rfl) (by kernel_rfl)
theorem cacheNewest_reads (os:Os) {H:Type} (enc:TypeId × Value→H):∃ places,DataW.whole enc Tryz.prog ((World.laidAll Tryz.prog os Rows.cacheNewestUptoRow.laid).forCall (fun _ _=>0) ⟨#[],#[.string ⟨#[]⟩,.int .i64 0,.int .i64 0,.slice none 0 0,.int .i64 0],[]⟩).memory Tryz.f5.params.toList Rows.cacheNewestSpec.vars false #[Value.string ⟨#[]⟩,.int .i64 0,.int .i64 0,.slice none 0 0,.int .i64 0].toList 8=some ([.lit (.string []),.lit (.int .i64 0),.lit (.int .i64 0),.nil,.lit (.int .i64 0)],[],places) :=
 ⟨[],by kernel_rfl⟩
theorem cacheNewest_lifted (os:Os) (started:os.Started) (H:Type) (enc:TypeId × Value→H) (F:Stop.Interp) :
  ReturnsInHanded {} Tryz.checked os 5 .any ((Rows.OpenSpec.upto Rows.cacheNewestSpec).preRow enc Tryz.prog Tryz.f5 Rows.cacheNewestUptoRow.domain false Rows.cacheNewestUptoRow.laid) (((Rows.OpenSpec.upto Rows.cacheNewestSpec).at F).post enc Tryz.prog Tryz.f5 false true false false):=by
 obtain⟨places,hx⟩:=cacheNewest_reads os enc
 refine returnsInHanded_of_row (C:=Tryz.checked) (s:=Rows.OpenSpec.upto Rows.cacheNewestSpec) own_ started (by kernel_rfl) Tryz.func5
  (witness_row_at (enc:=enc) (C:=Tryz.checked) false (World.laidAll Tryz.prog os Rows.cacheNewestUptoRow.laid) #[.string ⟨#[]⟩,.int .i64 0,.int .i64 0,.slice none 0 0,.int .i64 0] (World.laidAll_os _ _ _) (by kernel_rfl) (by kernel_rfl) (by kernel_rfl)
   (OpenSpec.preRow_of_cond 8 hx (by kernel_rfl) (fun k hk=>by cases hk;kernel_rfl) (by kernel_rfl) (cacheNewest_met os))) ?_
 intro W base args ds gs before hval hW _ hcond _ hL hsh _
 exact cacheNewest_contract H enc W base args ds gs before hval hW (hcond _ rfl) hL hsh
theorem cacheNewest_inPlace:(Rows.cacheNewestUptoRow.inPlace==Tryz.pinned.checked.prog.inPlace 5)=true:=by kernel_rfl
theorem cacheNewest_follows:(Rows.cacheNewestUptoRow.unfollowed==Tryz.pinned.checked.prog.unfollowed 5)=true:=by kernel_rfl
theorem cacheNewest_rings:(Rows.cacheNewestUptoRow.recurses==Tryz.pinned.checked.prog.recurses 5)=true:=by kernel_rfl
theorem cacheNewest_names:(Rows.cacheNewestUptoRow.named==Tryz.pinned.checked.prog.varsNamed 5)=true:=by kernel_rfl
theorem cacheNewest_closed:joinedFacts Tryz.pinned.checked.prog 5 Tryz.f5 (Rows.OpenSpec.upto Rows.cacheNewestSpec).bare Rows.cacheNewestUptoRow=true:=by
 unfold joinedFacts
 rw[cacheNewest_inPlace,cacheNewest_follows,cacheNewest_rings,cacheNewest_names]
 kernel_rfl
theorem cacheNewest_inst:Tryz.f5.isInstance Tryz.pinned.checked.prog Rows.cacheNewestUptoRow.origin Rows.cacheNewestUptoRow.targs:=of_decide_eq_true (by kernel_rfl)
theorem cacheNewest_wrap:Tryz.f5.isWrapper Tryz.pinned.checked.prog Rows.cacheNewestUptoRow.wrapper Rows.cacheNewestUptoRow.mainSum:=by unfold Func.isWrapper;first | (rw[if_pos (by decide +kernel)];kernel_rfl) | (rw[if_neg (by decide +kernel)];exact⟨rfl,rfl⟩)
theorem cacheNewest_name:Tryz.pinned.checked.prog.funcNamed Rows.cacheNewestUptoRow.func=some 5:=by kernel_rfl
theorem cacheNewest_said:Rows.CacheNewestUptoSaid :=
 OpenClaim.holds_of_cond 5 Tryz.f5 rfl rfl rfl rfl rfl rfl rfl ⟨rfl,rfl,rfl,rfl,rfl⟩ rfl rfl rfl rfl rfl cacheNewest_name Tryz.func5 cacheNewest_closed cacheNewest_inst cacheNewest_wrap
  (fun os started H enc _ F=>by rw[OpenClaim.pre_eq_preRow];exact cacheNewest_lifted os started H enc F)
end Go.Proofs.YthjeglnkgdpijaaGreatDoor
