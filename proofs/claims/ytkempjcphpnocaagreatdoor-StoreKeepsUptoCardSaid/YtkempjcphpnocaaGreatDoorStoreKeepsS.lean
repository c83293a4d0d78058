/- StoreKeeps holds wherever what it reads is of at most 1,048,576 bytes and numbers: on a disk without faults, with room, the store holds just what was put last and not dropped, and so does one that is opened anew. Conditions: the tables of the library that the row lists. -/
import Derived.Test.YtkempjcphpnocaaGreatDoorCards
import Derived.Test.YtkempjcphpnocaaGreatDoorTie
import Derived.Test.YtkempjcphpnocaaGreatDoorKeeps
import Derived.Test.YtkempjcphpnocaaGreatDoorZ22
import Derived.Test.YtkempjcphpnocaaGreatDoorZ02
import Derived.Test.YtkempjcphpnocaaGreatDoorZ01
import Derived.Carry
import Derived.ChangeMaps
namespace Go.Proofs.YtkempjcphpnocaaGreatDoor
open Go.ChangeShapes Go.WideShapes Go.ChangeAt Go.RowKit
set_option maxRecDepth 100000 in
theorem storeKeeps_contract (H:Type) (enc:TypeId × Value → H) (W:World) (base:Nat) (args:Array Value) (ds gs:List (DataW H)) (before:List MemPlace)
    (hval:∀ (j:Nat) t v,Tryz.f5.params[j]? = some t → args[j]? = some v → Value.okWide Tryz.prog W .any base t v)
    (hW:DataW.Whole enc Tryz.prog Tryz.f5.params.toList Rows.storeKeepsSpec.vars false W args.toList ds gs before) (hk:Rows.uptoSmall H (ds ++ gs) = true) (hL:laidMetH Tryz.prog Rows.storeKeepsUptoRow.laid W) (hsh:W.ShapedOpen Tryz.prog) :
    Calls Tryz.prog 5 args W fun e W'=>∃ v,e = .returned v ∧ Rows.storeKeepsSpec.post enc Tryz.prog Tryz.f5 false true false false W args v W':=by
  have hW':=hW
  obtain ⟨p,q,hA0,hV,rfl,hfz,hnd⟩:=hW
  have hA:DataW.TrodAll enc Tryz.prog W 0 (fun _=>true) true Tryz.f5.params.toList args.toList ds p:=hA0
  rw [Tryz.params5] at hA hval
  obtain ⟨v0,v1,d0,d1,p0,p1,rfl,rfl,rfl,h0,h1⟩:=trodAll_two hA
  obtain ⟨rfl,rfl⟩:=trodVars_none hV
  have h0k:=h0
  obtain ⟨m0,rfl,rfl,rfl,wm0⟩:=open_int Tryz.underlying3 (hval 0 3 v0 rfl rfl) h0
  have hm0:=int_bounds wm0
  obtain ⟨A1,n1,c1,st1,rfl,hl1,hx1,hc1,hnil1,her1,hsm1,hbl1⟩:=open_steps (hval 1 22 v1 rfl rfl) h1
  subst hl1
  clear hA0
  simp only [List.append_nil] at hW' hk
  have hlt:∀ x ∈ p1,x.block < W.heap.size:=fun x hx=>by simpa using hW'.lt x (by simpa using hx)
  have hb:(st1.length ≤ 1048576 ∧ Rows.uptoBulk d1 ≤ 1048576):=by
    have h:Rows.uptoBulkAll [DataW.lit (.int .i64 m0),d1] ≤ 1048576:=of_decide_eq_true hk
    simp only [Rows.uptoBulkAll,Rows.uptoBulk] at h
    omega
  have hb1:=hb
  have ht:TabOk W:=tab_of hL (by kernel_rfl)
  have hlib:LibOk W:=lib_of hL hsh (by kernel_rfl)
  have he:ErrOk W:=err_of hL (by kernel_rfl) (by kernel_rfl)
  refine (storeKeeps_any m0 A1 st1.length c1 st1 W rfl hc1 (by omega) hnil1 hx1 her1 (fun q hq=>⟨Nat.le_trans (Nat.le_trans (Nat.le_add_right _ _) (hsm1 q hq)) hb1.2,Nat.le_trans (Nat.le_trans (Nat.le_add_left _ _) (hsm1 q hq)) hb1.2⟩) ⟨hlib,he,ht⟩).mono fun e W' ⟨he,hw⟩=>?_
  subst he
  exact ⟨_,rfl,post_of_below (pa:=p1) (pv:=[]) hW' (fun _ _ _=>trodAll_mk1 (shut_bool Tryz.underlying4 true))
    (fun sp hsp=>by
      have k0:=again (by kernel_rfl) (of_decide_eq_true (by kernel_rfl)) h0k hw (fun x hx=>by cases hx) sp (fun x hx=>by cases hx)
      have k1:=again (by kernel_rfl) (of_decide_eq_true (by kernel_rfl)) h1 hw (fun x hx=>hlt x (by simp [hx])) sp (fun x hx=>hsp x (by simp [hx]))
      have:=trodAll_mk2 k0 k1
      simp only [List.nil_append] at this
      exact this) (fun _ _=>rfl) (by simp)
    hw (ok_one (by kernel_rfl) rfl (okWide_bool_mk Tryz.underlying4 true))⟩
theorem storeKeeps_met (os:Os):laidMet Tryz.prog Rows.storeKeepsUptoRow.laid ((World.laidAll Tryz.prog os Rows.storeKeepsUptoRow.laid).forCall (fun _ _=>0) ⟨#[],#[.int .i64 0,.slice none 0 0],[]⟩).memory :=
  laidMet_laidAll _ (by kernel_rfl) (by kernel_rfl)
theorem storeKeeps_reads (os:Os) {H:Type} (enc:TypeId × Value → H):∃ places,DataW.whole enc Tryz.prog ((World.laidAll Tryz.prog os Rows.storeKeepsUptoRow.laid).forCall (fun _ _=>0) ⟨#[],#[.int .i64 0,.slice none 0 0],[]⟩).memory Tryz.f5.params.toList Rows.storeKeepsSpec.vars false #[Value.int .i64 0,.slice none 0 0].toList 8 = some ([.lit (.int .i64 0),.nil],[],places) :=
  ⟨[],by kernel_rfl⟩
set_option maxRecDepth 100000 in
theorem storeKeeps_lifted (os:Os) (started:os.Started) (H:Type) (enc:TypeId × Value → H) (F:Stop.Interp) :
    ReturnsInHanded {} Tryz.checked os 5 .any ((Rows.OpenSpec.upto Rows.storeKeepsSpec).preRow enc Tryz.prog Tryz.f5 Rows.storeKeepsUptoRow.domain false Rows.storeKeepsUptoRow.laid) (((Rows.OpenSpec.upto Rows.storeKeepsSpec).at F).post enc Tryz.prog Tryz.f5 false true false false):=by
  obtain ⟨places,hx⟩:=storeKeeps_reads os enc
  refine returnsInHanded_of_row (C:=Tryz.checked) (s:=Rows.OpenSpec.upto Rows.storeKeepsSpec) own_ started (by kernel_rfl) Tryz.func5
    (witness_row_at (enc:=enc) (C:=Tryz.checked) false (World.laidAll Tryz.prog os Rows.storeKeepsUptoRow.laid) #[.int .i64 0,.slice none 0 0] (World.laidAll_os _ _ _) (by kernel_rfl) (by kernel_rfl) (by kernel_rfl)
      (OpenSpec.preRow_of_cond 8 hx (by kernel_rfl) (fun k hk=>by cases hk; kernel_rfl) (by kernel_rfl) (storeKeeps_met os))) ?_
  intro W base args ds gs before hval hW _ hcond _ hL hsh _
  exact storeKeeps_contract H enc W base args ds gs before hval hW (hcond _ rfl) hL hsh
theorem storeKeeps_inPlace:(Rows.storeKeepsUptoRow.inPlace == Tryz.pinned.checked.prog.inPlace 5) = true:=by kernel_rfl
theorem storeKeeps_follows:(Rows.storeKeepsUptoRow.unfollowed == Tryz.pinned.checked.prog.unfollowed 5) = true:=by kernel_rfl
theorem storeKeeps_rings:(Rows.storeKeepsUptoRow.recurses == Tryz.pinned.checked.prog.recurses 5) = true:=by kernel_rfl
theorem storeKeeps_names:(Rows.storeKeepsUptoRow.named == Tryz.pinned.checked.prog.varsNamed 5) = true:=by kernel_rfl
theorem storeKeeps_closed:joinedFacts Tryz.pinned.checked.prog 5 Tryz.f5 (Rows.OpenSpec.upto Rows.storeKeepsSpec).bare Rows.storeKeepsUptoRow = true:=by
  unfold joinedFacts
  rw [storeKeeps_inPlace,storeKeeps_follows,storeKeeps_rings,storeKeeps_names]
  kernel_rfl
theorem storeKeeps_inst:Tryz.f5.isInstance Tryz.pinned.checked.prog Rows.storeKeepsUptoRow.origin Rows.storeKeepsUptoRow.targs:=of_decide_eq_true (by kernel_rfl)
theorem storeKeeps_wrap:Tryz.f5.isWrapper Tryz.pinned.checked.prog Rows.storeKeepsUptoRow.wrapper Rows.storeKeepsUptoRow.mainSum:=by unfold Func.isWrapper; first | (rw [if_pos (by decide +kernel)]; kernel_rfl) | (rw [if_neg (by decide +kernel)]; exact ⟨rfl,rfl⟩)
theorem storeKeeps_name:Tryz.pinned.checked.prog.funcNamed Rows.storeKeepsUptoRow.func = some 5:=by kernel_rfl
theorem storeKeeps_said:Rows.StoreKeepsUptoSaid :=
  OpenClaim.holds_of_cond 5 Tryz.f5 rfl rfl rfl rfl rfl rfl rfl ⟨rfl,rfl,rfl,rfl,rfl⟩ rfl rfl rfl rfl rfl storeKeeps_name Tryz.func5 storeKeeps_closed storeKeeps_inst storeKeeps_wrap
    (fun os started H enc _ F=>by rw [OpenClaim.pre_eq_preRow]; exact storeKeeps_lifted os started H enc F)
end Go.Proofs.YtkempjcphpnocaaGreatDoor
