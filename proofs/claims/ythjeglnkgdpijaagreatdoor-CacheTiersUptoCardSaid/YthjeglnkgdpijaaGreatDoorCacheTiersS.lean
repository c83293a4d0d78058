/- CacheTiers holds wherever what it reads is of at most 1,048,576 bytes and numbers: the room in memory makes no difference to what is found. Conditions: the tables of the library that the row lists. -/
import Derived.Test.YthjeglnkgdpijaaGreatDoorCards
import Derived.Test.YthjeglnkgdpijaaGreatDoorTie
import Derived.Test.YthjeglnkgdpijaaGreatDoorCacheW
set_option maxRecDepth 100000
namespace Go.Proofs.YthjeglnkgdpijaaGreatDoor
open Go.ChangeShapes Go.WideShapes Go.ChangeAt Go.RowKit
theorem lH (H:Type) (enc:TypeId × Value→H) (W:World) (base:Nat) (args:Array Value) (ds gs:List (DataW H)) (before:List MemPlace)
  (hval:∀ (j:Nat) t v,Tryz.f4.params[j]?=some t→args[j]?=some v→Value.okWide Tryz.prog W .any base t v)
  (hW:DataW.Whole enc Tryz.prog Tryz.f4.params.toList Rows.cacheTiersSpec.vars false W args.toList ds gs before) (hk:Rows.uptoSmall H (ds++gs)=true) (hL:laidMetH Tryz.prog Rows.cacheTiersUptoRow.laid W) (hsh:W.ShapedOpen Tryz.prog) :
  Calls Tryz.prog 4 args W fun e W'=>∃ v,e=.returned v∧Rows.cacheTiersSpec.post enc Tryz.prog Tryz.f4 false true false false W args v W':=by
 have hW':=hW
 obtain⟨p,q,hA0,hV,rfl,hfz,hnd⟩:=hW
 have hA:DataW.TrodAll enc Tryz.prog W 0 (fun _=>true) true Tryz.f4.params.toList args.toList ds p:=hA0
 rw[Tryz.params4]at hA hval
 obtain⟨v0,v1,v2,d0,d1,d2,p0,p1,p2,rfl,rfl,rfl,h0,h1,h2⟩:=trodAll_three hA
 obtain⟨rfl,rfl⟩:=trodVars_none hV
 obtain⟨A0,n0,c0,st0,rfl,hl0,hx0,hc0,hnil0,her0,hsm0,hbl0⟩:=open_script (hval 0 26 v0 rfl rfl) h0
 have h1k:=h1
 obtain⟨m1,rfl,rfl,rfl,wm1⟩:=open_int Tryz.underlying3 (hval 1 3 v1 rfl rfl) h1
 have hm1:=int_bounds wm1
 have h2k:=h2
 obtain⟨m2,rfl,rfl,rfl,wm2⟩:=open_int Tryz.underlying3 (hval 2 3 v2 rfl rfl) h2
 have hm2:=int_bounds wm2
 subst hl0
 clear hA0
 simp only[List.append_nil]at hW' hk
 have hlt:∀ x∈p0,x.block < W.heap.size:=fun x hx=>by simpa using hW'.lt x (by simpa using hx)
 have hb:(st0.length≤1048576∧Rows.uptoBulk d0≤1048576):=by
  have h:Rows.uptoBulkAll [d0,DataW.lit (.int .i64 m1),DataW.lit (.int .i64 m2)]≤1048576:=of_decide_eq_true hk
  simp only[Rows.uptoBulkAll,Rows.uptoBulk]at h
  omega
 have hb0:=hb
 have ht:iJ W:=aPY hL (by kernel_rfl)
 have hlib:kP W:=aQA hL hsh (by kernel_rfl)
 have he:zY W:=aQH hL (by kernel_rfl) (by kernel_rfl)
 refine (vN A0 _ c0 st0 m1 m2 W rfl hc0 hx0 her0 (fun q h=>bD (hsm0 q h) hb0.2) ⟨hlib,he,ht⟩).mono fun e W' ⟨he,hw⟩=>?_
 subst he
 exact⟨_,rfl,yK (pa:=p0) (pv:=[]) hW' (fun _ _ _=>trodAll_mk1 (shut_bool Tryz.underlying4 true))
  (fun sp hsp=>by
   have k0:=again (by kernel_rfl) (of_decide_eq_true (by kernel_rfl)) h0 hw (fun x hx=>hlt x (by simp [hx])) sp (fun x hx=>hsp x (by simp [hx]))
   have k1:=again (by kernel_rfl) (of_decide_eq_true (by kernel_rfl)) h1k hw (fun x hx=>by cases hx) sp (fun x hx=>by cases hx)
   have k2:=again (by kernel_rfl) (of_decide_eq_true (by kernel_rfl)) h2k hw (fun x hx=>by cases hx) sp (fun x hx=>by cases hx)
   have:=trodAll_mk3 k0 k1 k2
   simp only[List.append_nil]at this
   exact this) (fun _ _=>rfl) (by simp)
  hw (ok_one (by kernel_rfl) rfl (okWide_bool_mk Tryz.underlying4 true))⟩
theorem vM (os:Os):laidMet Tryz.prog Rows.cacheTiersUptoRow.laid ((World.laidAll Tryz.prog os Rows.cacheTiersUptoRow.laid).forCall (fun _ _=>0) ⟨#[],#[.slice none 0 0,.int .i64 0,.int .i64 0],[]⟩).memory :=
 laidMet_laidAll _ (by kernel_rfl) (by kernel_rfl)
theorem qG (os:Os) {H:Type} (enc:TypeId × Value→H):∃ places,DataW.whole enc Tryz.prog ((World.laidAll Tryz.prog os Rows.cacheTiersUptoRow.laid).forCall (fun _ _=>0) ⟨#[],#[.slice none 0 0,.int .i64 0,.int .i64 0],[]⟩).memory Tryz.f4.params.toList Rows.cacheTiersSpec.vars false #[Value.slice none 0 0,.int .i64 0,.int .i64 0].toList 8=some ([.nil,.lit (.int .i64 0),.lit (.int .i64 0)],[],places) :=
 ⟨[],by kernel_rfl⟩
theorem oK (os:Os) (started:os.Started) (H:Type) (enc:TypeId × Value→H) (F:Stop.Interp) :
  ReturnsInHanded {} Tryz.checked os 4 .any ((Rows.OpenSpec.upto Rows.cacheTiersSpec).preRow enc Tryz.prog Tryz.f4 Rows.cacheTiersUptoRow.domain false Rows.cacheTiersUptoRow.laid) (((Rows.OpenSpec.upto Rows.cacheTiersSpec).at F).post enc Tryz.prog Tryz.f4 false true false false):=by
 obtain⟨places,hx⟩:=qG os enc
 refine returnsInHanded_of_row (C:=Tryz.checked) (s:=Rows.OpenSpec.upto Rows.cacheTiersSpec) own_ started (by kernel_rfl) Tryz.func4
  (witness_row_at (enc:=enc) (C:=Tryz.checked) false (World.laidAll Tryz.prog os Rows.cacheTiersUptoRow.laid) #[.slice none 0 0,.int .i64 0,.int .i64 0] (World.laidAll_os _ _ _) (by kernel_rfl) (by kernel_rfl) (by kernel_rfl)
   (OpenSpec.preRow_of_cond 8 hx (by kernel_rfl) (fun k hk=>by cases hk;kernel_rfl) (by kernel_rfl) (vM os))) ?_
 intro W base args ds gs before hval hW _ hcond _ hL hsh _
 exact lH H enc W base args ds gs before hval hW (hcond _ rfl) hL hsh
theorem mY:(Rows.cacheTiersUptoRow.inPlace==Tryz.pinned.checked.prog.inPlace 4)=true:=by kernel_rfl
theorem mZ:(Rows.cacheTiersUptoRow.unfollowed==Tryz.pinned.checked.prog.unfollowed 4)=true:=by kernel_rfl
theorem qF:(Rows.cacheTiersUptoRow.recurses==Tryz.pinned.checked.prog.recurses 4)=true:=by kernel_rfl
theorem qH:(Rows.cacheTiersUptoRow.named==Tryz.pinned.checked.prog.varsNamed 4)=true:=by kernel_rfl
theorem oL:joinedFacts Tryz.pinned.checked.prog 4 Tryz.f4 (Rows.OpenSpec.upto Rows.cacheTiersSpec).bare Rows.cacheTiersUptoRow=true:=by
 unfold joinedFacts
 rw[mY,mZ,qF,qH]
 kernel_rfl
theorem uK:Tryz.f4.isInstance Tryz.pinned.checked.prog Rows.cacheTiersUptoRow.origin Rows.cacheTiersUptoRow.targs:=of_decide_eq_true (by kernel_rfl)
theorem uH:Tryz.f4.isWrapper Tryz.pinned.checked.prog Rows.cacheTiersUptoRow.wrapper Rows.cacheTiersUptoRow.mainSum:=by unfold Func.isWrapper;first | (rw[if_pos (by decide +kernel)];kernel_rfl) | (rw[if_neg (by decide +kernel)];exact⟨rfl,rfl⟩)
theorem uJ:Tryz.pinned.checked.prog.funcNamed Rows.cacheTiersUptoRow.func=some 4:=by kernel_rfl
theorem uI:Rows.CacheTiersUptoSaid :=
 OpenClaim.holds_of_cond 4 Tryz.f4 rfl rfl rfl rfl rfl rfl rfl ⟨rfl,rfl,rfl,rfl,rfl⟩ rfl rfl rfl rfl rfl uJ Tryz.func4 oL uK uH
  (fun os started H enc _ F=>by rw[OpenClaim.pre_eq_preRow];exact oK os started H enc F)
end Go.Proofs.YthjeglnkgdpijaaGreatDoor
