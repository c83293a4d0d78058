/- What a script's tries tell of a store without faults; what is left of its disk makes a disk again. No program here but rows' cells. The walk of the store's Drop. Conditions: what the disk's steps ask; at most 2^18 entries; an Id of at most 2^20 bytes. The walks of the Store laws' cut and of SameTexts at two lists that are alike. Condition: at most 2^40 steps or texts. The law StoreRefused. Conditions: an entry, and a script's entries, of at most 2^20 bytes in all; the library's tables. -/
import Derived.Test.YtkempjcphpnocaaGreatDoorKeepS
import Derived.Test.YtkempjcphpnocaaGreatDoorZ22
import Derived.Test.YtkempjcphpnocaaGreatDoorNewF
import Derived.Test.YtkempjcphpnocaaGreatDoorStoU
import Derived.Test.YtkempjcphpnocaaGreatDoorZ15
import Derived.Test.YtkempjcphpnocaaGreatDoorZ24
import Derived.Test.YtkempjcphpnocaaGreatDoorZ08
namespace Go.Proofs.YtkempjcphpnocaaGreatDoor
namespace T
def wantR (id:ByteArray):List TP → Option O.Ent
  | []=>none
  | t :: r=>if t.id = id then (if t.drop then none else some t.p.E) else wantR id r
structure Tells (l:List TP) (s:S.Sto):Prop where
  done:∀ t ∈ l,t.done = true
  get:∀ id,s.get id = wantR id l.reverse
theorem mustR_want (id:ByteArray):∀ l:List TP,(∀ t ∈ l,t.done = true) → mustR id l = (wantR id l).isSome
  | [],_=>rfl
  | t :: r,h=>by
    unfold mustR wantR
    by_cases hi:t.id = id
    · rw [if_pos hi,if_pos hi,h t (by simp)]
      cases t.drop <;> rfl
    · rw [if_neg hi,if_neg hi]
      exact mustR_want id r (fun x hx=>h x (List.mem_cons_of_mem _ hx))
theorem laidR_want {id:ByteArray} {E:O.Ent}:∀ l:List TP,wantR id l = some E → laidR id E l
  | [],h=>by cases h
  | t :: r,h=>by
    unfold wantR at h
    unfold laidR
    by_cases hi:t.id = id
    · rw [if_pos hi] at h ⊢
      cases hd:t.drop with
      | true =>
        rw [hd] at h
        cases h
      | false =>
        rw [hd] at h
        exact ⟨rfl,Option.some.inj h⟩
    · rw [if_neg hi] at h ⊢
      exact laidR_want r h
section
variable {l:List TP} {s s':S.Sto} {id:ByteArray} {E:O.Ent}
theorem Tells.must (h:Tells l s) (id:ByteArray):must l id = (s.get id).isSome:=by
  unfold T.must
  rw [mustR_want id _ (fun t ht=>h.done t (List.mem_reverse.1 ht)),h.get]
theorem Tells.laid (h:Tells l s) (hg:s.get id = some E):laid l id E:=laidR_want _ ((h.get id).symm.trans hg)
theorem Tells.nil (h:∀ id,s.get id = none):Tells [] s:=⟨(fun _ h=>by cases h),h⟩
theorem Tells.snoc (h:Tells l s) (t:TP) (hd:t.done = true) (hg:∀ x,s'.get x = if x = t.id then (if t.drop then none else some t.p.E) else s.get x):Tells (l ++ [t]) s' :=
  ⟨fun x hx=>by
    rcases List.mem_append.1 hx with hx | hx
    · exact h.done x hx
    · rw [List.mem_singleton.1 hx]; exact hd,fun x=>by
    rw [hg,List.reverse_append,List.reverse_singleton,List.singleton_append]
    unfold wantR
    by_cases hx:x = t.id
    · rw [if_pos hx,if_pos hx.symm]
    · rw [if_neg hx,if_neg (fun e=>hx e.symm)]
      exact h.get x⟩
end
end T
theorem nodup_len:∀ (n:Nat) (l:List Nat),l.Nodup → (∀ x ∈ l,x < n) → l.length ≤ n
  | 0,l,_,h=>by
    cases l with
    | nil=>exact Nat.le_refl _
    | cons x _=>exact absurd (h x (by simp)) (Nat.not_lt_zero _)
  | n + 1,l,hn,h=>by
    have h1:=nodup_len n (l.erase n) (hn.erase n) (fun x hx=>by
      have h2:=(List.Nodup.mem_erase_iff hn).1 hx
      have:=h x h2.2
      have:=h2.1
      omega)
    rw [List.length_erase] at h1
    split at h1 <;> omega
theorem pair_ne {l:D.NM} (hu:D.Up l) (ho:∀ p ∈ l,∀ q ∈ l,p.2 = q.2 → p = q):(l.map (·.2)).Nodup:=by
  induction l with
  | nil=>exact List.nodup_nil
  | cons p r ih =>
    obtain ⟨h1,h2⟩:=List.pairwise_cons.1 hu
    rw [List.map_cons,List.nodup_cons]
    refine ⟨fun hm=>?_,ih h2 (fun a ha b hb=>ho a (List.mem_cons_of_mem _ ha) b (List.mem_cons_of_mem _ hb))⟩
    obtain ⟨q,hq,e⟩:=List.mem_map.1 hm
    have h3:=h1 q hq
    have h4:=ho p (by simp) q (List.mem_cons_of_mem _ hq) e.symm
    rw [← h4,D.lt_irrefl] at h3
    cases h3
theorem S.Keeps.many {n i u:Nat} {s:S.Sto} (h:S.Keeps n i u s):s.tab.length ≤ n:=by
  have:=nodup_len n (s.tab.map (·.2)) (pair_ne h.up h.one) (fun x hx=>by
    obtain ⟨p,hp,rfl⟩:=List.mem_map.1 hx
    exact (h.tab p hp).1)
  rwa [List.length_map] at this
namespace D
theorem del_all {l:NM} {nm:ByteArray} (h:∀ p ∈ l,p.1 ≠ nm):del l nm = l:=by
  unfold del
  rw [List.filter_eq_self]
  intro p hp
  exact decide_eq_true (h p hp)
theorem del_ge {nm:ByteArray}:∀ {l:NM},Up l → l.length ≤ (del l nm).length + 1
  | [],_=>Nat.zero_le _
  | p :: r,h=>by
    obtain ⟨h1,h2⟩:=List.pairwise_cons.1 h
    by_cases hp:p.1 = nm
    · have e:del (p :: r) nm = r:=by
        have:del (p :: r) nm = del r nm:=by
          unfold del
          rw [List.filter_cons,if_neg (by simp [hp])]
        rw [this]
        refine del_all fun q hq e=>?_
        have:=h1 q hq
        rw [hp,e,lt_irrefl] at this
        cases this
      rw [e,List.length_cons]
      exact Nat.le_refl _
    · have e:del (p :: r) nm = p :: del r nm:=by
        unfold del
        rw [List.filter_cons,if_pos (by simp [hp])]
      have:=del_ge (nm:=nm) h2
      rw [e,List.length_cons,List.length_cons]
      omega
theorem put_ge {l:NM} (h:Up l) (nm:ByteArray) (no:Nat):l.length ≤ (put l nm no).length:=by
  unfold put
  rw [length_ins]
  exact del_ge h
theorem app_ge {l:NM} (h:Up l) (c:Chg):l.length ≤ (c.app l).length + 1:=by
  cases c with
  | put nm no=>exact Nat.le_succ_of_le (put_ge h nm no)
  | del nm=>exact del_ge h
  | ren a b no=>exact Nat.le_trans (del_ge (nm:=a) h) (Nat.succ_le_succ (put_ge (up_del h a) b no))
theorem safe_len {s:Dsk} (h:s.Ok):s.safe.length ≤ s.now.length + s.pend.length:=by
  have key:∀ (cs:List Chg) (l:NM),Up l → l.length ≤ (cs.foldl Chg.app l).length + cs.length:=by
    intro cs
    induction cs with
    | nil=>intro l _; exact Nat.le_refl _
    | cons c cs ih =>
      intro l hl
      have h1:=ih (c.app l) (up_app hl c)
      have h2:=app_ge hl c
      rw [List.foldl_cons,List.length_cons]
      omega
  have:=key s.pend s.safe h.upS
  rw [h.fold]
  exact this
theorem good_lt {x:ByteArray} (h:good x = true):ltB ⟨#[]⟩ x = true:=by
  rcases lt_or (a:=(⟨#[]⟩:ByteArray)) (b:=x) (fun e=>by subst e; exact absurd h (by decide)) with h1 | h1
  · exact h1
  · unfold ltB at h1
    have:=of_decide_eq_true h1
    exact absurd this (by
      show ¬ L x < []
      exact List.not_lt_nil _)
section
variable {u m:Nat} {d:Dsk} {k:Int}
theorem Cl.left_fit (h:Cl none u d) (hf:Fit m d) (hp:(d.pend.length:Int) ≤ k) :
    rise ⟨#[]⟩ ((d.left k []).map (·.1)) = true ∧ (d.left k []).length ≤ m ∧ ∀ p ∈ d.left k [],p.1.size ≤ 64 ∧ p.2.length ≤ 1073741824:=by
  rw [h.left hp]
  have hn:((d.now.map fun p=>(p.1,d.data.getD p.2 [])).map (·.1)) = d.now.map (·.1):=by rw [List.map_map]; rfl
  have hg:∀ x ∈ d.now.map (·.1),good x = true:=fun x hx=>by
    obtain ⟨p,hp,rfl⟩:=List.mem_map.1 hx
    exact hf.nmd.now p hp
  refine ⟨?_,by rw [List.length_map]; exact hf.now,fun p hp=>?_⟩
  · rw [hn]
    exact rise_up hg (List.pairwise_cons.2 ⟨fun x hx=>good_lt (hg x hx),List.pairwise_map.2 h.calm.ok.upN⟩)
  · obtain ⟨q,hq,rfl⟩:=List.mem_map.1 hp
    exact ⟨good_size (hf.nmd.now q hq),hf.size q.2⟩
theorem Cl.again_fit (h:Cl none u d) (hu:u ≤ 1073741824) (hf:Fit m d) (hp:(d.pend.length:Int) ≤ k):Fit m (ofFiles (d.left k []) 1073741824 [] (-1)):=by
  obtain ⟨h1,h2,h3⟩:=h.left_fit hf hp
  obtain ⟨h4,_⟩:=h.again hu hp
  have hg:∀ p ∈ numb 0 ((d.left k []).map (·.1)),good p.1 = true:=fun p hp2=>by
    have hm:=(numb_mem hp2).1
    rw [h.left hp,List.map_map] at hm
    obtain ⟨q,hq,e⟩:=List.mem_map.1 hm
    rw [← e]
    exact hf.nmd.now q hq
  refine ⟨⟨hg,hg,(fun _ h=>by cases h)⟩,h4.calm.ok,Int.le_refl _,by show (0:Int) ≤ m; omega,?_,Nat.zero_le _,?_,Nat.zero_le _,⟨by show (0:Int) ≤ 1073741824; omega,by show (1073741824:Int) ≤ 1073741824; omega⟩,fun no=>?_⟩
  · show (numb 0 _).length ≤ m
    rw [numb_len,List.length_map]
    exact h2
  · show ((d.left k []).map (·.2)).length ≤ m
    rw [List.length_map]
    exact h2
  · show ((((d.left k []).map (·.2)).getD no []).length) ≤ _
    by_cases hno:no < (d.left k []).length
    · have e:(((d.left k []).map (·.2)).getD no []) = ((d.left k [])[no]'hno).2:=by simp [List.getD,hno]
      rw [e]
      exact (h3 _ (List.getElem_mem hno)).2
    · have e:(((d.left k []).map (·.2)).getD no []) = []:=by
        rw [List.getD,List.getElem?_eq_none (by rw [List.length_map]; omega)]
        rfl
      rw [e]
      exact Nat.zero_le _
end
end D
namespace S
theorem Keeps.few {n i u:Nat} {s:Sto} {d:D.Dsk} (h:Keeps n i u s) (hi:i ≤ 100) (hd:D.Cl none u d) (hk:∀ x,D.cont d x = D.cont s.d x) :
    (R.replay ((if has d.list newN then d.remove newN else (d,0)).1.read logN).1).1.length ≤ 524288:=by
  obtain ⟨rs,g1,g2,g3,g4⟩:=h.log
  have hnew:has d.list newN = false:=by
    cases hh:has d.list newN with
    | false=>rfl
    | true =>
      rw [has_iff,hd.calm.mem,hk,h.new] at hh
      cases hh
  have hrd:d.read logN = (R.encs rs,0):=by rw [hd.calm.read log_good,hk,g1]
  rw [hnew,if_neg (by decide),hrd,R.replay_encs g2]
  have:=h.count
  show rs.length ≤ _
  omega
end S
end Go.Proofs.YtkempjcphpnocaaGreatDoor
namespace Go.Proofs.YtkempjcphpnocaaGreatDoor
open Go Go.RowKit Go.Maps
theorem tab_deleted {b:Nat} {t:D.NM} {n:Nat} {w:World} {nm:ByteArray} (h:w.ownsMap Tryz.prog 9 S.intR b n ((S.datT t).del (D.key nm))):w.ownsMap Tryz.prog 9 S.intR b (D.del t nm).length (S.datT (D.del t nm)):=by
  unfold S.datT at h
  rw [D.datum_del] at h
  exact tab_tight h
set_option maxRecDepth 100000 in
set_option maxHeartbeats 4000000 in
theorem sdrop_any (B:Nat) (X:SM) (s:S.Sto) (id:ByteArray) (m:Nat) (w:World) (h:StAt B X s w) (hf:D.Fit m s.d) (hm:m ≤ 134000000) (hu:D.Up s.tab) (hl:s.tab.length ≤ 262144) (hz:∀ p ∈ s.tab,p.1.size ≤ 1048576) (hc:s.count ≤ 549755813888)
    (hlen:s.used.length ≤ 4096) (htab:∀ p ∈ s.tab,p.2 < s.used.length) (hi:id.size ≤ 1048576) :
    Calls Tryz.prog 18 #[.pointer (some ⟨X.st,0,none⟩),.string id] w (RetSto B X s w (s.drop id).1 (.int .i64 (s.drop id).2)):=by
  have HD:=Lib.hid h
  have HF:=Lib.hid hf
  have hlk:=tab_ok h.tab id (by simp only [maxLen]; omega)
  obtain ⟨y0,y1,y2,y3⟩:=h.cells
  cases hfd:D.find s.tab id with
  | none =>
    have hG:s.drop id = (s,90):=by unfold S.Sto.drop; rw [hfd]
    rw [hG]
    rw [hfd] at hlk
    clear h hf hu hz htab y0 y1 y3
    go_enter Tryz.func18,Tryz.ntmps18
    go_wp2
    go_ret
    exact ⟨rfl,X,HD.out,Went.refl _ _,rfl,rfl,rfl⟩
  | some no =>
  have hmem:(id,no) ∈ s.tab:=D.find_mem hfd
  have hno:no < s.used.length:=htab _ hmem
  rw [hfd] at hlk
  obtain ⟨Y,hY⟩:∃ Y,S.add s.d s.count 2 no id = Y:=⟨_,rfl⟩
  obtain ⟨G,hG⟩:∃ G,s.drop id = G:=⟨_,rfl⟩
  have HG:Hid (G = if Y.2.1 = s.count then (({ s with d:=Y.1 }:S.Sto),Y.2.2) else ((({ s with d:=Y.1,count:=Y.2.1,tab:=D.del s.tab id }:S.Sto).free no).tidy,Y.2.2)):=Lib.hid (by
    rw [← hG,← hY]
    unfold S.Sto.drop
    rw [hfd])
  rw [hG]
  have HCN:=Lib.hid (count_any B X.lg X.M s.d s.count w h.log)
  have HAD:=Lib.hid (add_any B X.lg X.M s.d s.count m 2 no id w h.log hf (by omega) (by omega) (by omega))
  have hF5:D.Fit (m + 2) Y.1:=by rw [← hY]; exact S.add_fit hf _ _ _ _
  have hcnt:Y.2.1 = s.count ∨ Y.2.1 = s.count + 1:=by
    rw [← hY]
    unfold S.add
    split
    · exact .inl rfl
    · split
      · exact .inl rfl
      · exact .inr rfl
  rw [hY] at HAD
  have HF5:=Lib.hid hF5
  have HU:=Lib.hid (D.up_del (nm:=id) hu)
  have HZ:=Lib.hid (fun p (hp:p ∈ D.del s.tab id)=>hz p (D.mem_del.1 hp).1)
  have hdl:(D.del s.tab id).length ≤ s.tab.length:=List.length_filter_le _ _
  clear h hf hu hz htab hmem hfd hG hY hF5 y0 y3
  simp only [Option.getD_some,Option.isSome_some] at hlk
  go_enter Tryz.func18,Tryz.ntmps18
  go_wp2_with fail
  clear hlk y2
  refine HCN.out.mono ?_
  rintro e w1 ⟨rfl,rfl⟩
  clear HCN
  go_wp2_with fail
  clear y1
  refine HAD.out.mono ?_
  rintro e w5 ⟨rfl,M5,h5,hw5,hm5⟩
  obtain ⟨d5,n5,e5⟩:=Y
  dsimp only at h5 hw5 HG hcnt HF5 ⊢
  obtain ⟨h6,hw6⟩:=HD.out.logged h5 hw5 hm5
  have HD6:=Lib.hid h6
  have HW6:=Lib.hid hw6
  have HM6:=Lib.hid hm5
  have HCN:=Lib.hid (count_any B X.lg M5 d5 n5 w5 h5)
  obtain ⟨y0,y1,y2,y3⟩:=h6.cells
  dsimp only at y1 y2
  clear h5 hw5 hm5 h6 hw6 HAD y0 y3
  go_wp2_with fail
  refine HCN.out.mono ?_
  rintro e w6 ⟨rfl,rfl⟩
  clear HCN y1
  by_cases hn5:n5 = s.count
  · rw [if_pos hn5] at HG
    have hnb:((n5:Int) == (s.count:Int)) = true:=by rw [hn5]; exact beq_self_eq_true _
    have HS5:Hid (({ s with d:=d5,count:=n5 }:S.Sto) = { s with d:=d5 }):=Lib.hid (by rw [hn5])
    rw [HS5.out] at HD6 HW6
    go_wp2
    go_ret
    exact ⟨by rw [HG.out] <;> rfl,{ X with M:=M5 },by rw [HG.out]; exact HD6.out,by rw [HG.out]; exact HW6.out,rfl,HM6.out,rfl⟩
  · rw [if_neg hn5] at HG
    have hnb:((n5:Int) == (s.count:Int)) = false:=beq_eq_false_iff_ne.2 (by omega)
    have hn51:n5 = s.count + 1:=by omega
    obtain ⟨s5,hs5⟩:∃ s5:S.Sto,s5 = { s with d:=d5,count:=n5 }:=⟨_,rfl⟩
    have h5t:s5.tab = s.tab:=by rw [hs5]
    have HT5:=Lib.hid (show ({ s with d:=d5,count:=n5,tab:=D.del s.tab id }:S.Sto) = { s5 with tab:=D.del s.tab id } by rw [hs5])
    have h5u:s5.used.length = s.used.length:=by rw [hs5]
    have h5c:s5.count = n5:=by rw [hs5]
    have HF5d:Hid (D.Fit (m + 2) s5.d):=Lib.hid (by rw [hs5]; exact HF5.out)
    rw [← hs5] at HD6 HW6
    rw [HT5.out] at HG
    clear hs5 HF5 HT5
    go_wp2_with (at_delete; refine wpList_delete_own _ rfl _ _ 84 9 rfl 3 (string_keyed strT_ul) tbT_ul S.intR X.tb s5.tab.length (S.datT s5.tab) rfl HD6.out.tab (.string id) (D.key id) rfl (nmKey id (by simp only [maxLen]; omega)) ?_; intro w7 hown7 hturn7; have HOW7:=Lib.hid (tab_deleted hown7); have HGR7:=Lib.hid hturn7.grown; clear hown7 hturn7)
    clear y2
    have HT7:Hid (D.del s5.tab id = D.del s.tab id):=Lib.hid (by rw [h5t])
    rw [HT7.out] at HOW7
    obtain ⟨h7,hw7⟩:=HD6.out.tabbed HOW7.out HGR7.out
    have HW7:=Lib.hid (HW6.out.trans hw7)
    have HFR:=Lib.hid (free_any B { X with M:=M5 } { s5 with tab:=D.del s.tab id } no (m + 2) w7 h7 HF5d.out (by omega) (by show no < s5.used.length; omega) (by omega))
    have HF8:Hid (D.Fit (m + 3) (({ s5 with tab:=D.del s.tab id }:S.Sto).free no).d):=Lib.hid (S.free_fit (s:={ s5 with tab:=D.del s.tab id }) HF5d.out no)
    obtain ⟨s8,hs8⟩:∃ s8,(({ s5 with tab:=D.del s.tab id }:S.Sto).free no) = s8:=⟨_,rfl⟩
    have h8t:s8.tab = D.del s.tab id:=by rw [← hs8]; rfl
    have h8c:s8.count = n5:=by rw [← hs8]; exact h5c
    rw [hs8] at HFR HF8 HG
    clear hs8 h7 hw7 HOW7 HGR7 HD6 HW6 HF5d HT7
    go_wp2_with fail
    refine HFR.out.mono ?_
    rintro e w8 ⟨rfl,X8,hs8,hw8,hst8,hd8,hlg8⟩
    have HTI:=Lib.hid (tidy_any B X8 s8 (m + 3) w8 hs8 HF8.out (by omega) (by rw [h8t]; exact HU.out) (by rw [h8t]; omega) (by rw [h8t]; exact HZ.out) (by omega))
    have HW8:=Lib.hid (HW7.out.trans hw8)
    have HX8:Hid (X8.st = X.st ∧ X8.M.d = X.M.d ∧ X8.lg = X.lg):=Lib.hid ⟨hst8,hd8.trans HM6.out,hlg8⟩
    dsimp only at hst8
    rw [hst8] at HTI
    clear hs8 hw8 hst8 hd8 hlg8 HFR HW7
    go_wp2_with fail
    refine HTI.out.mono ?_
    rintro e w9 ⟨rfl,X9,hs9,hw9,hst9,hd9,hlg9⟩
    have HS9:=Lib.hid hs9
    have HW9:=Lib.hid (HW8.out.trans hw9)
    have HX9:Hid (X9.st = X.st ∧ X9.M.d = X.M.d ∧ X9.lg = X.lg):=Lib.hid ⟨hst9.trans HX8.out.1,hd9.trans HX8.out.2.1,hlg9.trans HX8.out.2.2⟩
    clear hs9 hw9 hst9 hd9 hlg9 HTI HW8
    go_wp2
    go_ret
    exact ⟨by rw [HG.out] <;> rfl,X9,by rw [HG.out]; exact HS9.out,by rw [HG.out]; exact HW9.out,HX9.out.1,HX9.out.2.1,HX9.out.2.2⟩
end Go.Proofs.YtkempjcphpnocaaGreatDoor
namespace Go.Proofs.YtkempjcphpnocaaGreatDoor
open Go Go.RowKit Go.Maps
def RetScript (w:World) (A:Option Addr) (l:List (EP × ByteArray)) (e:Ending) (w':World):Prop:=∃ c,e = .returned (.slice A (l.take 60).length c) ∧ w' = w
set_option maxHeartbeats 1000000 in
theorem lcut_any (A:Option Addr) (n c:Nat) (l:List (EP × ByteArray)) (w:World) (hl:l.length = n) (hnc:n ≤ c) (hn:n ≤ 1099511627776) (hA:A = none → n = 0):Calls Tryz.prog 9 #[.slice A n c] w (RetScript w A l):=by
  subst hl
  by_cases h:60 < l.length
  · have h1:(l.length:Int) > 60:=by omega
    have h60:(l.take 60).length = 60:=by rw [List.length_take]; omega
    obtain ⟨⟨b,o,f⟩,rfl⟩:∃ a,A = some a:=by
      cases A with
      | none=>exact absurd (hA rfl) (by omega)
      | some a=>exact ⟨a,rfl⟩
    go_enter Tryz.func9,Tryz.ntmps9
    go_wp2
    go_ret
    exact ⟨_,by rw [h60] <;> rfl,rfl⟩
  · have h1:¬ (l.length:Int) > 60:=by omega
    have h60:(l.take 60).length = l.length:=by rw [List.length_take]; omega
    go_enter Tryz.func9,Tryz.ntmps9
    go_wp2
    go_ret
    exact ⟨c,by rw [h60] <;> rfl,rfl⟩
set_option maxHeartbeats 2000000 in
theorem sameTexts_any (A A2:Option Addr) (n c c2:Nat) (l:List ByteArray) (w:World) (hl:l.length = n) (hn:n ≤ 1099511627776) (hx:Rd w A n 1 (scells l)) (hy:Rd w A2 n 1 (scells l)):Calls Tryz.prog 15 #[.slice A n c,.slice A2 n c2] w (RetB w true):=by
  subst hl
  have HX:=Lib.hid hx
  have HY:=Lib.hid hy
  clear hx hy
  go_enter Tryz.func15,Tryz.ntmps15
  go_wp2_with fail
  go_loopw [5] (fun i wr=>∃ k:Nat,k ≤ l.length ∧ i = .int .i64 k ∧ Below w.heap.size w wr) (fun i _=>l.length - (intOf i).toNat)
  case atStart=>exact ⟨0,Nat.zero_le _,rfl,Below.refl _ _⟩
  case round =>
    obtain ⟨k,hk,rfl,hb⟩:=hrel
    have HB:=Lib.hid hb
    obtain ⟨wo,rfl⟩:∃ wo:World,wo = wr:=⟨_,rfl⟩
    by_cases hlt:k < l.length
    · obtain ⟨b,o,rfl,hb1,y0⟩:=(HX.out.below hb).str hlt rfl
      obtain ⟨b2,o2,rfl,hb2,y1⟩:=(HY.out.below hb).str hlt rfl
      generalize l[k]'hlt = nm at *
      have hne:(nm.data.toList != nm.data.toList) = false:=by simp
      clear hb
      go_upto_region 6 with fail
      go_region
      go_wp2
      go_roundw
      case rel=>exact ⟨k + 1,by omega,by go_num,HB.out.drew⟩
      case measure=>simp [intOf]; omega
    · have hke:k = l.length:=by omega
      subst hke
      go_wp2
      go_ret
      exact ⟨rfl,HB.out⟩
end Go.Proofs.YtkempjcphpnocaaGreatDoor
namespace Go.Proofs.YtkempjcphpnocaaGreatDoor
open Go Go.RowKit Go.Maps
def EP.small (p:EP):Prop:=F.bulk p.E.fs + p.E.k.size + p.E.v.size + p.E.r.size + p.E.body.length ≤ 1048576
theorem ep_len {p:EP} (h:EP.small p):p.E.fs.length ≤ 1099511627776 ∧ p.E.body.length ≤ 1099511627776 ∧ p.E.r.size ≤ 1073741824 ∧ F.bulk p.E.fs ≤ 1073741824 ∧ p.E.k.size ≤ 1073741824 ∧ p.E.v.size ≤ 1073741824:=by
  unfold EP.small at h
  have:=F.len_le_bulk p.E.fs
  omega
theorem kcopy_any (p:EP) (w:World) (hp:EP.small p) (hx:ERd w p):Calls Tryz.prog 11 #[p.v] w (fun e w'=>∃ q:EP,q.E = p.E ∧ e = .returned q.v ∧ ERd w' q ∧ Below w.heap.size w w'):=by
  obtain ⟨h1,h2,_⟩:=ep_len hp
  refine (copyEntry_any p.E.k p.E.v p.E.s p.E.r p.E.m p.A p.c p.E.fs p.X p.d p.E.body p.E.asked p.E.got w h1 h2 hx.1 hx.2).mono ?_
  rintro e w' ⟨A,c,X,d,rfl,r1,r2,hb⟩
  exact ⟨⟨p.E,A,c,X,d⟩,rfl,rfl,⟨r1,r2⟩,hb⟩
theorem ent_small {E:O.Ent} (h:E.ok = true):E.fs.length ≤ 1099511627776 ∧ E.body.length ≤ 1099511627776:=by
  unfold O.Ent.ok objOk at h
  obtain ⟨h1,h2⟩:=of_decide_eq_true h
  unfold okE at h2
  have h3:=of_decide_eq_true h2
  refine ⟨?_,by omega⟩
  unfold F.respE at h1
  split at h1
  · cases h1
  · split at h1
    · cases h1
    · unfold F.wholeE at h1
      split at h1
      · rename_i hp
        unfold F.printE at hp
        split at hp
        · split at hp
          · cases hp
          · omega
        · cases hp
      · rename_i hp
        exact absurd h1 hp
theorem get_small {s:S.Sto} {id:ByteArray} {E:O.Ent} (h:s.get id = some E):E.fs.length ≤ 1099511627776 ∧ E.body.length ≤ 1099511627776:=by
  unfold S.Sto.get at h
  split at h
  · cases h
  · unfold S.read at h
    split at h
    · cases h
    · exact ent_small (O.dec_some h).1
theorem ksame_any (p q:EP) (w:World) (hE:q.E = p.E) (hp:p.E.fs.length ≤ 1099511627776 ∧ p.E.body.length ≤ 1099511627776) (hx:ERd w p) (hy:ERd w q):Calls Tryz.prog 17 #[p.v,q.v] w (RetB w true):=by
  obtain ⟨E,A,c,X,d⟩:=p
  obtain ⟨E2,A2,c2,X2,d2⟩:=q
  dsimp only at hE hp
  subst hE
  exact sameEntry_any E2.k E2.v E2.s E2.r E2.m A c E2.fs X d E2.body E2.asked E2.got A2 c2 X2 d2 w hp.1 hp.2 hx.1 hy.1 hx.2 hy.2
theorem take60 (l:List (EP × ByteArray)):(l.take 60).length ≤ 60:=by rw [List.length_take]; omega
end Go.Proofs.YtkempjcphpnocaaGreatDoor
