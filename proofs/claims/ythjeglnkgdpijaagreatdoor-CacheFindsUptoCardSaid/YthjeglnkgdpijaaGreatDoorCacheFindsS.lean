/- The law CacheFinds holds: whatever the disk does, what the cache finds is the entry that was saved last under its Id behind the last Purge of the key, and it matches what was asked. Conditions: those of the row (arguments of a bulk of at most 2^20 bytes; the tables of the library laid). -/
import Derived.Test.YthjeglnkgdpijaaGreatDoorCards
import Derived.Test.YthjeglnkgdpijaaGreatDoorTie
import Derived.Test.YthjeglnkgdpijaaGreatDoorFinds
set_option maxRecDepth 100000
namespace Go.Proofs.YthjeglnkgdpijaaGreatDoor
open Go.ChangeShapes Go.WideShapes Go.ChangeAt Go.RowKit
theorem lZ (H:Type) (enc:TypeId × Value→H) (W:World) (base:Nat) (args:Array Value) (ds gs:List (DataW H)) (before:List MemPlace)
  (hval:∀ (j:Nat) t v,Tryz.f3.params[j]?=some t→args[j]?=some v→Value.okWide Tryz.prog W .any base t v)
  (hW:DataW.Whole enc Tryz.prog Tryz.f3.params.toList Rows.cacheFindsSpec.vars false W args.toList ds gs before) (hk:Rows.uptoSmall H (ds++gs)=true) (hL:laidMetH Tryz.prog Rows.cacheFindsUptoRow.laid W) (hsh:W.ShapedOpen Tryz.prog) :
  Calls Tryz.prog 3 args W fun e W'=>∃ v,e=.returned v∧Rows.cacheFindsSpec.post enc Tryz.prog Tryz.f3 false true false false W args v W':=by
 have hW':=hW
 obtain⟨p,q,hA0,hV,rfl,hfz,hnd⟩:=hW
 have hA:DataW.TrodAll enc Tryz.prog W 0 (fun _=>true) true Tryz.f3.params.toList args.toList ds p:=hA0
 rw[Tryz.params3]at hA hval
 obtain⟨v0,v1,v2,v3,d0,d1,d2,d3,p0,p1,p2,p3,rfl,rfl,rfl,h0,h1,h2,h3⟩:=trodAll_four hA
 obtain⟨rfl,rfl⟩:=trodVars_none hV
 obtain⟨FA0,fn0,fc0,sp0,A0,n0,c0,pw0,sl0,me0,zs0,rfl,hl0,hx0,hbk0⟩:=aGX (hval 0 25 v0 rfl rfl) h0
 obtain⟨A1,n1,c1,st1,rfl,hl1,hx1,hc1,hnil1,her1,hsm1,hbl1⟩:=open_script (hval 1 26 v1 rfl rfl) h1
 have h2k:=h2
 obtain⟨s2,rfl,rfl,rfl,_⟩:=Go.ChangeMaps.open_string Tryz.underlying9 (hval 2 9 v2 rfl rfl) h2
 obtain⟨A3,n3,c3,fs3,rfl,hl3,hx3,hbk3,hnil3⟩:=aDU (hval 3 27 v3 rfl rfl) h3
 subst hl0
 subst hl1
 subst hl3
 clear hA0
 simp only[List.append_nil]at hW' hk
 have hlt:∀ x∈p0++(p1++(p3)),x.block < W.heap.size:=fun x hx=>by simpa using hW'.lt x (by simpa using hx)
 have hb:zs0.length≤1048576∧(st1.length≤1048576∧Rows.uptoBulk d1≤1048576)∧s2.size≤1048576∧F.bulk fs3≤1048576:=by
  have h:Rows.uptoBulkAll [d0,d1,DataW.lit (.string s2.data.toList),d3]≤1048576:=of_decide_eq_true hk
  simp only[Rows.uptoBulkAll,Rows.uptoBulk,Array.length_toList]at h
  have:s2.size=s2.data.size:=rfl
  omega
 obtain⟨hb0,hb1,hb2,hb3⟩:=hb
 have ht:iY W:=aQ9 hL (by kernel_rfl)
 have hlib:lH W:=aRL hL hsh (by kernel_rfl)
 have he:aAQ W:=aRU hL (by kernel_rfl) (by kernel_rfl)
 refine (wL FA0 fn0 fc0 sp0 A0 _ c0 zs0 pw0 sl0 me0 A1 _ c1 st1 s2 A3 _ c3 fs3 W rfl (by omega) hx0 rfl hc1 hx1 her1 (fun q h=>bD (hsm1 q h) hb1.2) hb2 rfl hx3 hb3 ⟨hlib,he,ht⟩).mono fun e W' ⟨he,hw⟩=>?_
 subst he
 exact⟨_,rfl,zK (pa:=p0++(p1++(p3))) (pv:=[]) hW' (fun _ _ _=>trodAll_mk1 (shut_bool Tryz.underlying4 true))
  (fun sp hsp=>by
   have k0:=again (by kernel_rfl) (of_decide_eq_true (by kernel_rfl)) h0 hw (fun x hx=>hlt x (by simp [hx])) sp (fun x hx=>hsp x (by simp [hx]))
   have k1:=again (by kernel_rfl) (of_decide_eq_true (by kernel_rfl)) h1 hw (fun x hx=>hlt x (by simp [hx])) sp (fun x hx=>hsp x (by simp [hx]))
   have k2:=again (by kernel_rfl) (of_decide_eq_true (by kernel_rfl)) h2k hw (fun x hx=>by cases hx) sp (fun x hx=>by cases hx)
   have k3:=again (by kernel_rfl) (of_decide_eq_true (by kernel_rfl)) h3 hw (fun x hx=>hlt x (by simp [hx])) sp (fun x hx=>hsp x (by simp [hx]))
   have:=trodAll_mk4 k0 k1 k2 k3
   simp only[List.nil_append]at this
   exact this) (fun _ _=>rfl) (by simp)
  hw (ok_one (by kernel_rfl) rfl (okWide_bool_mk Tryz.underlying4 true))⟩
theorem wK (os:Os):laidMet Tryz.prog Rows.cacheFindsUptoRow.laid ((World.laidAll Tryz.prog os Rows.cacheFindsUptoRow.laid).forCall (fun _ _=>0) ⟨#[],#[.agg #[.slice none 0 0,.int .i64 0,.slice none 0 0,.int .i64 0,.int .i64 0,.int .i64 0],.slice none 0 0,.string ⟨#[]⟩,.slice none 0 0],[]⟩).memory :=
 laidMet_laidAll _ (by kernel_rfl) (by kernel_rfl)
theorem rE (os:Os) {H:Type} (enc:TypeId × Value→H):∃ places,DataW.whole enc Tryz.prog ((World.laidAll Tryz.prog os Rows.cacheFindsUptoRow.laid).forCall (fun _ _=>0) ⟨#[],#[.agg #[.slice none 0 0,.int .i64 0,.slice none 0 0,.int .i64 0,.int .i64 0,.int .i64 0],.slice none 0 0,.string ⟨#[]⟩,.slice none 0 0],[]⟩).memory Tryz.f3.params.toList Rows.cacheFindsSpec.vars false #[Value.agg #[.slice none 0 0,.int .i64 0,.slice none 0 0,.int .i64 0,.int .i64 0,.int .i64 0],.slice none 0 0,.string ⟨#[]⟩,.slice none 0 0].toList 8=some ([.agg [.nil,.lit (.int .i64 0),.nil,.lit (.int .i64 0),.lit (.int .i64 0),.lit (.int .i64 0)],.nil,.lit (.string []),.nil],[],places) :=
 ⟨[],by kernel_rfl⟩
theorem pG (os:Os) (started:os.Started) (H:Type) (enc:TypeId × Value→H) (F:Stop.Interp) :
  ReturnsInHanded {} Tryz.checked os 3 .any ((Rows.OpenSpec.upto Rows.cacheFindsSpec).preRow enc Tryz.prog Tryz.f3 Rows.cacheFindsUptoRow.domain false Rows.cacheFindsUptoRow.laid) (((Rows.OpenSpec.upto Rows.cacheFindsSpec).at F).post enc Tryz.prog Tryz.f3 false true false false):=by
 obtain⟨places,hx⟩:=rE os enc
 refine returnsInHanded_of_row (C:=Tryz.checked) (s:=Rows.OpenSpec.upto Rows.cacheFindsSpec) own_ started (by kernel_rfl) Tryz.func3
  (witness_row_at (enc:=enc) (C:=Tryz.checked) false (World.laidAll Tryz.prog os Rows.cacheFindsUptoRow.laid) #[.agg #[.slice none 0 0,.int .i64 0,.slice none 0 0,.int .i64 0,.int .i64 0,.int .i64 0],.slice none 0 0,.string ⟨#[]⟩,.slice none 0 0] (World.laidAll_os _ _ _) (by kernel_rfl) (by kernel_rfl) (by kernel_rfl)
   (OpenSpec.preRow_of_cond 8 hx (by kernel_rfl) (fun k hk=>by cases hk;kernel_rfl) (by kernel_rfl) (wK os))) ?_
 intro W base args ds gs before hval hW _ hcond _ hL hsh _
 exact lZ H enc W base args ds gs before hval hW (hcond _ rfl) hL hsh
theorem nO:(Rows.cacheFindsUptoRow.inPlace==Tryz.pinned.checked.prog.inPlace 3)=true:=by kernel_rfl
theorem nP:(Rows.cacheFindsUptoRow.unfollowed==Tryz.pinned.checked.prog.unfollowed 3)=true:=by kernel_rfl
theorem rD:(Rows.cacheFindsUptoRow.recurses==Tryz.pinned.checked.prog.recurses 3)=true:=by kernel_rfl
theorem rF:(Rows.cacheFindsUptoRow.named==Tryz.pinned.checked.prog.varsNamed 3)=true:=by kernel_rfl
theorem pI:joinedFacts Tryz.pinned.checked.prog 3 Tryz.f3 (Rows.OpenSpec.upto Rows.cacheFindsSpec).bare Rows.cacheFindsUptoRow=true:=by
 unfold joinedFacts
 rw[nO,nP,rD,rF]
 kernel_rfl
theorem vH:Tryz.f3.isInstance Tryz.pinned.checked.prog Rows.cacheFindsUptoRow.origin Rows.cacheFindsUptoRow.targs:=of_decide_eq_true (by kernel_rfl)
theorem vC:Tryz.f3.isWrapper Tryz.pinned.checked.prog Rows.cacheFindsUptoRow.wrapper Rows.cacheFindsUptoRow.mainSum:=by unfold Func.isWrapper;first | (rw[if_pos (by decide +kernel)];kernel_rfl) | (rw[if_neg (by decide +kernel)];exact⟨rfl,rfl⟩)
theorem vG:Tryz.pinned.checked.prog.funcNamed Rows.cacheFindsUptoRow.func=some 3:=by kernel_rfl
theorem vF:Rows.CacheFindsUptoSaid :=
 OpenClaim.holds_of_cond 3 Tryz.f3 rfl rfl rfl rfl rfl rfl rfl ⟨rfl,rfl,rfl,rfl,rfl⟩ rfl rfl rfl rfl rfl vG Tryz.func3 pI vH vC
  (fun os started H enc _ F=>by rw[OpenClaim.pre_eq_preRow];exact pG os started H enc F)
end Go.Proofs.YthjeglnkgdpijaaGreatDoor
