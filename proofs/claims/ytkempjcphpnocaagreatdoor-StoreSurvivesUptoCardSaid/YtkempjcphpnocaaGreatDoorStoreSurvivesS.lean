/- StoreSurvives holds wherever what it reads is of at most 1,048,576 bytes and numbers: whatever step loses the power, and whatever that leaves, a store that is opened has whole entries alone, all that were told, and none that was dropped. Conditions: the tables of the library that the row lists. -/
import Derived.Test.YtkempjcphpnocaaGreatDoorCards
import Derived.Test.YtkempjcphpnocaaGreatDoorTie
import Derived.Test.YtkempjcphpnocaaGreatDoorSurvs
import Derived.Carry
import Derived.ChangeMaps
namespace Go.Proofs.YtkempjcphpnocaaGreatDoor
open Go.ChangeShapes Go.WideShapes Go.ChangeAt Go.RowKit
set_option maxRecDepth 100000 in
theorem storeSurvives_contract (H:Type) (enc:TypeId × Value→H) (W:World) (base:Nat) (args:Array Value) (ds gs:List (DataW H)) (before:List MemPlace)
  (hval:∀ (j:Nat) t v,Tryz.f4.params[j]?=some t→args[j]?=some v→Value.okWide Tryz.prog W .any base t v)
  (hW:DataW.Whole enc Tryz.prog Tryz.f4.params.toList Rows.storeSurvivesSpec.vars false W args.toList ds gs before) (hk:Rows.uptoSmall H (ds++gs)=true) (hL:laidMetH Tryz.prog Rows.storeSurvivesUptoRow.laid W) (hsh:W.ShapedOpen Tryz.prog) :
  Calls Tryz.prog 4 args W fun e W'=>∃ v,e=.returned v∧Rows.storeSurvivesSpec.post enc Tryz.prog Tryz.f4 false true false false W args v W':=by
 have hW':=hW
 obtain⟨p,q,hA0,hV,rfl,hfz,hnd⟩:=hW
 have hA:DataW.TrodAll enc Tryz.prog W 0 (fun _=>true) true Tryz.f4.params.toList args.toList ds p:=hA0
 rw[Tryz.params4]at hA hval
 obtain⟨v0,v1,v2,v3,v4,v5,d0,d1,d2,d3,d4,d5,p0,p1,p2,p3,p4,p5,rfl,rfl,rfl,h0,h1,h2,h3,h4,h5⟩:=trodAll_six hA
 obtain⟨rfl,rfl⟩:=trodVars_none hV
 have h0k:=h0
 obtain⟨m0,rfl,rfl,rfl,wm0⟩:=open_int Tryz.underlying3 (hval 0 3 v0 rfl rfl) h0
 have hm0:=int_bounds wm0
 have h1k:=h1
 obtain⟨m1,rfl,rfl,rfl,wm1⟩:=open_int Tryz.underlying3 (hval 1 3 v1 rfl rfl) h1
 have hm1:=int_bounds wm1
 have h2k:=h2
 obtain⟨m2,rfl,rfl,rfl,wm2⟩:=open_int Tryz.underlying3 (hval 2 3 v2 rfl rfl) h2
 have hm2:=int_bounds wm2
 obtain⟨A3,n3,c3,st3,rfl,hl3,hx3,hc3,hnil3,her3,hsm3,hbl3⟩:=open_steps (hval 3 22 v3 rfl rfl) h3
 obtain⟨k4,A4,n4,c4,zs4,rfl,hl4,hx4,hbk4⟩:=open_fate (hval 4 53 v4 rfl rfl) h4
 obtain⟨k5,A5,n5,c5,zs5,rfl,hl5,hx5,hbk5⟩:=open_fate (hval 5 53 v5 rfl rfl) h5
 subst hl3
 subst hl4
 subst hl5
 clear hA0
 simp only[List.append_nil]at hW' hk
 have hlt:∀ x∈p3++(p4++(p5)),x.block < W.heap.size:=fun x hx=>by simpa using hW'.lt x (by simpa using hx)
 have hb:(st3.length≤1048576∧Rows.uptoBulk d3≤1048576)∧zs4.length≤1048576∧zs5.length≤1048576:=by
  have h:Rows.uptoBulkAll [DataW.lit (.int .i64 m0),DataW.lit (.int .i64 m1),DataW.lit (.int .i64 m2),d3,d4,d5]≤1048576:=of_decide_eq_true hk
  simp only[Rows.uptoBulkAll,Rows.uptoBulk]at h
  omega
 obtain⟨hb3,hb4,hb5⟩:=hb
 have ht:TabOk W:=tab_of hL (by kernel_rfl)
 have hlib:LibOk W:=lib_of hL hsh (by kernel_rfl)
 have he:ErrOk W:=err_of hL (by kernel_rfl) (by kernel_rfl)
 refine (storeSurvives_any m0 m1 m2 k4 k5 A3 st3.length c3 st3 A4 A5 c4 c5 zs4 zs5 W rfl hc3 (by omega) hnil3 hx3 her3 (fun q hq=>⟨Nat.le_trans (Nat.le_trans (Nat.le_add_right _ _) (hsm3 q hq)) hb3.2,Nat.le_trans (Nat.le_trans (Nat.le_add_left _ _) (hsm3 q hq)) hb3.2⟩) (by omega) (by omega) hx4 hx5 ⟨hlib,he,ht⟩).mono fun e W' ⟨he,hw⟩=>?_
 subst he
 exact⟨_,rfl,post_of_below (pa:=p3++(p4++(p5))) (pv:=[]) hW' (fun _ _ _=>trodAll_mk1 (shut_bool Tryz.underlying4 true))
  (fun sp hsp=>by
   have k0:=again (by kernel_rfl) (of_decide_eq_true (by kernel_rfl)) h0k hw (fun x hx=>by cases hx) sp (fun x hx=>by cases hx)
   have k1:=again (by kernel_rfl) (of_decide_eq_true (by kernel_rfl)) h1k hw (fun x hx=>by cases hx) sp (fun x hx=>by cases hx)
   have k2:=again (by kernel_rfl) (of_decide_eq_true (by kernel_rfl)) h2k hw (fun x hx=>by cases hx) sp (fun x hx=>by cases hx)
   have k3:=again (by kernel_rfl) (of_decide_eq_true (by kernel_rfl)) h3 hw (fun x hx=>hlt x (by simp [hx])) sp (fun x hx=>hsp x (by simp [hx]))
   have k4:=again (by kernel_rfl) (of_decide_eq_true (by kernel_rfl)) h4 hw (fun x hx=>hlt x (by simp [hx])) sp (fun x hx=>hsp x (by simp [hx]))
   have k5:=again (by kernel_rfl) (of_decide_eq_true (by kernel_rfl)) h5 hw (fun x hx=>hlt x (by simp [hx])) sp (fun x hx=>hsp x (by simp [hx]))
   have:=trodAll_mk6 k0 k1 k2 k3 k4 k5
   simp only[List.nil_append]at this
   exact this) (fun _ _=>rfl) (by simp)
  hw (ok_one (by kernel_rfl) rfl (okWide_bool_mk Tryz.underlying4 true))⟩
theorem storeSurvives_met (os:Os):laidMet Tryz.prog Rows.storeSurvivesUptoRow.laid ((World.laidAll Tryz.prog os Rows.storeSurvivesUptoRow.laid).forCall (fun _ _=>0) ⟨#[],#[.int .i64 0,.int .i64 0,.int .i64 0,.slice none 0 0,.agg #[.int .i64 0,.slice none 0 0],.agg #[.int .i64 0,.slice none 0 0]],[]⟩).memory :=
 laidMet_laidAll _ (by kernel_rfl) (by kernel_rfl)
theorem storeSurvives_reads (os:Os) {H:Type} (enc:TypeId × Value→H):∃ places,DataW.whole enc Tryz.prog ((World.laidAll Tryz.prog os Rows.storeSurvivesUptoRow.laid).forCall (fun _ _=>0) ⟨#[],#[.int .i64 0,.int .i64 0,.int .i64 0,.slice none 0 0,.agg #[.int .i64 0,.slice none 0 0],.agg #[.int .i64 0,.slice none 0 0]],[]⟩).memory Tryz.f4.params.toList Rows.storeSurvivesSpec.vars false #[Value.int .i64 0,.int .i64 0,.int .i64 0,.slice none 0 0,.agg #[.int .i64 0,.slice none 0 0],.agg #[.int .i64 0,.slice none 0 0]].toList 8=some ([.lit (.int .i64 0),.lit (.int .i64 0),.lit (.int .i64 0),.nil,.agg [.lit (.int .i64 0),.nil],.agg [.lit (.int .i64 0),.nil]],[],places) :=
 ⟨[],by kernel_rfl⟩
set_option maxRecDepth 100000 in
theorem storeSurvives_lifted (os:Os) (started:os.Started) (H:Type) (enc:TypeId × Value→H) (F:Stop.Interp) :
  ReturnsInHanded {} Tryz.checked os 4 .any ((Rows.OpenSpec.upto Rows.storeSurvivesSpec).preRow enc Tryz.prog Tryz.f4 Rows.storeSurvivesUptoRow.domain false Rows.storeSurvivesUptoRow.laid) (((Rows.OpenSpec.upto Rows.storeSurvivesSpec).at F).post enc Tryz.prog Tryz.f4 false true false false):=by
 obtain⟨places,hx⟩:=storeSurvives_reads os enc
 refine returnsInHanded_of_row (C:=Tryz.checked) (s:=Rows.OpenSpec.upto Rows.storeSurvivesSpec) own_ started (by kernel_rfl) Tryz.func4
  (witness_row_at (enc:=enc) (C:=Tryz.checked) false (World.laidAll Tryz.prog os Rows.storeSurvivesUptoRow.laid) #[.int .i64 0,.int .i64 0,.int .i64 0,.slice none 0 0,.agg #[.int .i64 0,.slice none 0 0],.agg #[.int .i64 0,.slice none 0 0]] (World.laidAll_os _ _ _) (by kernel_rfl) (by kernel_rfl) (by kernel_rfl)
   (OpenSpec.preRow_of_cond 8 hx (by kernel_rfl) (fun k hk=>by cases hk;kernel_rfl) (by kernel_rfl) (storeSurvives_met os))) ?_
 intro W base args ds gs before hval hW _ hcond _ hL hsh _
 exact storeSurvives_contract H enc W base args ds gs before hval hW (hcond _ rfl) hL hsh
theorem storeSurvives_inPlace:(Rows.storeSurvivesUptoRow.inPlace==Tryz.pinned.checked.prog.inPlace 4)=true:=by kernel_rfl
theorem storeSurvives_follows:(Rows.storeSurvivesUptoRow.unfollowed==Tryz.pinned.checked.prog.unfollowed 4)=true:=by kernel_rfl
theorem storeSurvives_rings:(Rows.storeSurvivesUptoRow.recurses==Tryz.pinned.checked.prog.recurses 4)=true:=by kernel_rfl
theorem storeSurvives_names:(Rows.storeSurvivesUptoRow.named==Tryz.pinned.checked.prog.varsNamed 4)=true:=by kernel_rfl
theorem storeSurvives_closed:joinedFacts Tryz.pinned.checked.prog 4 Tryz.f4 (Rows.OpenSpec.upto Rows.storeSurvivesSpec).bare Rows.storeSurvivesUptoRow=true:=by
 unfold joinedFacts
 rw[storeSurvives_inPlace,storeSurvives_follows,storeSurvives_rings,storeSurvives_names]
 kernel_rfl
theorem storeSurvives_inst:Tryz.f4.isInstance Tryz.pinned.checked.prog Rows.storeSurvivesUptoRow.origin Rows.storeSurvivesUptoRow.targs:=of_decide_eq_true (by kernel_rfl)
theorem storeSurvives_wrap:Tryz.f4.isWrapper Tryz.pinned.checked.prog Rows.storeSurvivesUptoRow.wrapper Rows.storeSurvivesUptoRow.mainSum:=by unfold Func.isWrapper;first | (rw[if_pos (by decide +kernel)];kernel_rfl) | (rw[if_neg (by decide +kernel)];exact⟨rfl,rfl⟩)
theorem storeSurvives_name:Tryz.pinned.checked.prog.funcNamed Rows.storeSurvivesUptoRow.func=some 4:=by kernel_rfl
theorem storeSurvives_said:Rows.StoreSurvivesUptoSaid :=
 OpenClaim.holds_of_cond 4 Tryz.f4 rfl rfl rfl rfl rfl rfl rfl ⟨rfl,rfl,rfl,rfl,rfl⟩ rfl rfl rfl rfl rfl storeSurvives_name Tryz.func4 storeSurvives_closed storeSurvives_inst storeSurvives_wrap
  (fun os started H enc _ F=>by rw[OpenClaim.pre_eq_preRow];exact storeSurvives_lifted os started H enc F)
end Go.Proofs.YtkempjcphpnocaaGreatDoor
