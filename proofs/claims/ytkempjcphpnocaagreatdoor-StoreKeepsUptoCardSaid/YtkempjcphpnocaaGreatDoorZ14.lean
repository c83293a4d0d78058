/- The plain disk's steps keep its form; what they do where nothing fails. No program here. A disk where nothing fails, told by what its files hold. No program here. -/
import Derived.Test.YtkempjcphpnocaaGreatDoorZ13
namespace Go.Proofs.YtkempjcphpnocaaGreatDoor
namespace D
theorem length_ins (l:NM) (nm:ByteArray) (no:Nat):(ins l nm no).length = l.length + 1:=by
  induction l with
  | nil=>rfl
  | cons p r ih =>
    unfold ins
    split
    · rfl
    · rw [List.length_cons,ih,List.length_cons]
theorem length_del (l:NM) (nm:ByteArray):(del l nm).length ≤ l.length:=List.length_filter_le _ _
theorem length_put (l:NM) (nm:ByteArray) (no:Nat):(put l nm no).length ≤ l.length + 1:=by
  unfold put
  rw [length_ins]
  have:=length_del l nm
  omega
theorem length_app (l:NM) (c:Chg):(c.app l).length ≤ l.length + 1:=by
  cases c with
  | put nm no=>exact length_put l nm no
  | del nm=>exact Nat.le_succ_of_le (length_del l nm)
  | ren a b no =>
    have h1:=length_put (del l a) b no
    have h2:=length_del l a
    show (put (del l a) b no).length ≤ _
    omega
theorem mem_app {l:NM} {c:Chg} {p:ByteArray × Nat} {n:Nat} (hp:p ∈ c.app l) (hl:∀ p ∈ l,p.2 < n) (hc:c.within n):p.2 < n:=by
  cases c with
  | put nm no =>
    rcases mem_put.1 hp with rfl | h
    · exact hc
    · exact hl p h.1
  | del nm=>exact hl p (mem_del.1 hp).1
  | ren a b no =>
    rcases mem_put.1 hp with rfl | h
    · exact hc
    · exact hl p (mem_del.1 h.1).1
theorem Chg.within.mono {c:Chg} {n m:Nat} (h:c.within n) (hm:n ≤ m):c.within m:=by
  cases c with
  | put nm no=>exact Nat.lt_of_lt_of_le h hm
  | del nm=>trivial
  | ren a b no=>exact Nat.lt_of_lt_of_le h hm
theorem Dsk.Ok.alter {s:Dsk} (h:s.Ok) {c:Chg} (hc:c.within s.data.length):(s.alter c).Ok :=
  ⟨h.lens,up_app h.upN c,h.upS,fun _ hp=>mem_app hp h.inN hc,h.inS,fun d hd=>by
    rcases List.mem_append.1 hd with hd | hd
    · exact h.inP d hd
    · rw [List.mem_singleton.1 hd]; exact hc,by
    show c.app s.now = (s.pend ++ [c]).foldl Chg.app s.safe
    rw [List.foldl_append,← h.fold]
    rfl,h.firms⟩
theorem Dsk.Ok.count {s:Dsk} (h:s.Ok) (n:Int):({ s with n:=n }:Dsk).Ok:=⟨h.lens,h.upN,h.upS,h.inN,h.inS,h.inP,h.fold,h.firms⟩
theorem Dsk.Ok.newFile {s:Dsk} (h:s.Ok):({ s with data:=s.data ++ [[]],firm:=s.firm ++ [0] }:Dsk).Ok:=by
  have hl:(s.data ++ [([]:List UInt8)]).length = s.data.length + 1:=by simp
  refine ⟨by simp [h.lens],h.upN,h.upS,fun p hp=>?_,fun p hp=>?_,fun c hc=>(h.inP c hc).mono ?_,h.fold,fun no hn=>?_⟩
  · show _ < (s.data ++ [([]:List UInt8)]).length
    rw [hl]; have:=h.inN p hp; omega
  · show _ < (s.data ++ [([]:List UInt8)]).length
    rw [hl]; have:=h.inS p hp; omega
  · show _ ≤ (s.data ++ [([]:List UInt8)]).length
    rw [hl]; omega
  · change no < (s.data ++ [([]:List UInt8)]).length at hn
    rw [hl] at hn
    unfold Dsk.size
    dsimp only
    by_cases e:no = s.data.length
    · subst e
      have:(s.firm ++ [0]).getD s.data.length 0 = 0:=by simp [List.getD,← h.lens]
      rw [this]
      exact Nat.zero_le _
    · have hi:no < s.data.length:=by omega
      have h1:(s.data ++ [([]:List UInt8)]).getD no [] = s.data.getD no []:=by simp [List.getD,List.getElem?_append_left hi]
      have h2:(s.firm ++ [0]).getD no 0 = s.firm.getD no 0:=by simp [List.getD,List.getElem?_append_left (show no < s.firm.length by rw [h.lens]; exact hi)]
      rw [h1,h2]
      exact h.firms no hi
theorem Dsk.Ok.data {s:Dsk} (h:s.Ok) (no:Nat) (d:List UInt8):({ s with data:=s.data.set no (s.data.getD no [] ++ d) }:Dsk).Ok:=by
  refine ⟨by simp [h.lens],h.upN,h.upS,fun p hp=>by have:=h.inN p hp; simpa using this,fun p hp=>by have:=h.inS p hp; simpa using this,fun c hc=>by have:=h.inP c hc; simpa using this,h.fold,fun i hi=>?_⟩
  have hi2:i < s.data.length:=by simpa using hi
  have:=h.firms i hi2
  unfold Dsk.size at this ⊢
  dsimp only
  by_cases e:i = no
  · subst e
    simp [List.getD,hi2] at this ⊢
    omega
  · rw [show (s.data.set no (s.data.getD no [] ++ d)).getD i [] = s.data.getD i [] by simp [List.getD,List.getElem?_set_ne (fun h=>e h.symm)]]
    exact this
theorem Dsk.Ok.firm {s:Dsk} (h:s.Ok) (no:Nat):({ s with firm:=s.firm.set no (s.size no) }:Dsk).Ok:=by
  refine ⟨by simp [h.lens],h.upN,h.upS,h.inN,h.inS,h.inP,h.fold,fun i hi=>?_⟩
  have:=h.firms i hi
  show (s.firm.set no (s.size no)).getD i 0 ≤ s.size i
  by_cases e:i = no
  · subst e
    by_cases hl:i < s.firm.length
    · simp [List.getD,hl]
    · simp [List.getD,hl]
  · rw [show (s.firm.set no (s.size no)).getD i 0 = s.firm.getD i 0 by simp [List.getD,List.getElem?_set_ne (fun h=>e h.symm)]]
    exact this
theorem Dsk.Ok.synced {s:Dsk} (h:s.Ok):({ s with safe:=s.now,pend:=[] }:Dsk).Ok :=
  ⟨h.lens,h.upN,h.upN,h.inN,h.inN,(fun _ hc=>by cases hc),rfl,h.firms⟩
def Chg.nmd:Chg → Bool
  | .put nm _=>good nm
  | .del nm=>good nm
  | .ren a b _=>good a && good b
structure Dsk.Nmd (s:Dsk):Prop where
  now:∀ p ∈ s.now,good p.1 = true
  safe:∀ p ∈ s.safe,good p.1 = true
  pend:∀ c ∈ s.pend,c.nmd = true
theorem nmd_app {l:NM} {c:Chg} (hl:∀ p ∈ l,good p.1 = true) (hc:c.nmd = true):∀ p ∈ c.app l,good p.1 = true:=by
  intro p hp
  cases c with
  | put nm no =>
    rcases mem_put.1 hp with rfl | hp
    · exact hc
    · exact hl p hp.1
  | del nm=>exact hl p (mem_del.1 hp).1
  | ren a b no =>
    rcases mem_put.1 hp with rfl | hp
    · exact (Bool.and_eq_true _ _ ▸ hc:good a = true ∧ good b = true).2
    · exact hl p (mem_del.1 hp.1).1
theorem Dsk.Nmd.alter {s:Dsk} (h:s.Nmd) {c:Chg} (hc:c.nmd = true):(s.alter c).Nmd :=
  ⟨nmd_app h.now hc,h.safe,fun x hx=>by
    rcases List.mem_append.1 hx with hx | hx
    · exact h.pend x hx
    · rw [List.mem_singleton.1 hx]; exact hc⟩
structure Fit (k:Nat) (s:Dsk):Prop where
  nmd:s.Nmd
  ok:s.Ok
  n0:0 ≤ s.n
  n:s.n ≤ k
  now:s.now.length ≤ k
  pend:s.pend.length ≤ k
  data:s.data.length ≤ k
  fails:s.fails.length ≤ 1099511627776
  room:0 ≤ s.room ∧ s.room ≤ 1073741824
  size:∀ no,s.size no ≤ 1073741824
theorem Fit.mono {k m:Nat} {s:Dsk} (h:Fit k s) (hm:k ≤ m):Fit m s :=
  ⟨h.nmd,h.ok,h.n0,by have:=h.n; omega,Nat.le_trans h.now hm,Nat.le_trans h.pend hm,Nat.le_trans h.data hm,h.fails,h.room,h.size⟩
theorem Fit.sml {k:Nat} {s:Dsk} (h:Fit k s) (hk:k ≤ 268435456):s.Sml :=
  ⟨h.n0,by have:=h.n; omega,h.fails,by have:=h.now; omega,by have:=h.pend; omega,by have:=h.data; omega,fun no=>by have:=h.size no; omega⟩
theorem sum_bound {f:ByteArray × Nat → Nat} {Z:Nat}:∀ l:NM,(∀ p,f p ≤ Z) → (l.map f).sum ≤ l.length * Z
  | [],_=>by simp
  | p :: r,h=>by
    have h1:=sum_bound r h
    have h2:=h p
    rw [List.map_cons,List.sum_cons,List.length_cons,Nat.succ_mul]
    omega
theorem Fit.used {k:Nat} {s:Dsk} (h:Fit k s) (hk:k ≤ 268435456):s.used ≤ 1152921504606846976:=by
  have h1:s.used ≤ s.now.length * 1073741824:=sum_bound s.now (fun p=>h.size p.2)
  have h2:=h.now
  have h3:s.now.length * 1073741824 ≤ 268435456 * 1073741824:=Nat.mul_le_mul_right _ (by omega)
  omega
theorem size_le_used {s:Dsk} {nm:ByteArray} {no:Nat} (h:(nm,no) ∈ s.now):s.size no ≤ s.used:=by
  unfold Dsk.used
  generalize s.now = l at *
  induction l with
  | nil=>cases h
  | cons p r ih =>
    rw [List.map_cons,List.sum_cons]
    rcases List.mem_cons.1 h with rfl | h
    · exact Nat.le_add_right _ _
    · have:=ih h
      omega
section
variable {k:Nat} {s:Dsk}
theorem Fit.count (h:Fit k s):Fit (k + 1) { s with n:=s.n + 1 } :=
  ⟨⟨h.nmd.now,h.nmd.safe,h.nmd.pend⟩,h.ok.count _,by have:=h.n0; show 0 ≤ s.n + 1; omega,by have:=h.n; show s.n + 1 ≤ _; omega,Nat.le_succ_of_le h.now,Nat.le_succ_of_le h.pend,Nat.le_succ_of_le h.data,h.fails,h.room,h.size⟩
theorem Fit.begin (h:Fit k s) (ns:List ByteArray):Fit (k + 1) (s.begin ns).1:=by
  unfold Dsk.begin
  split
  · exact h.mono (Nat.le_succ k)
  · exact h.count
theorem Dsk.begin_good (s:Dsk) (ns:List ByteArray):(s.begin ns).2 = 0 → ns.all good = true:=by
  unfold Dsk.begin
  split
  · intro h; cases h
  · dsimp only
    split
    · intro h; cases h
    · split
      · intro _; assumption
      · intro h; cases h
theorem Fit.on (h:Fit k s) (nm:ByteArray) (more:List ByteArray) (f:Dsk → Nat → Dsk × Int) (hf:∀ (u:Dsk) (no:Nat),u.now = s.now → u.pend = s.pend → u.data = s.data → Fit (k + 1) u → find u.now nm = some no → (more ++ [nm]).all good = true → Fit (k + 1) (f u no).1):Fit (k + 1) (s.on nm more f).1:=by
  have hg:=s.begin_good (more ++ [nm])
  obtain ⟨n,hn⟩:=s.begin_as (more ++ [nm])
  have hb:=h.begin (more ++ [nm])
  unfold Dsk.on
  cases hbe:s.begin (more ++ [nm]) with
  | mk s1 e =>
    rw [hbe] at hn hb hg
    dsimp only at hn hb hg ⊢
    split
    · exact hb
    · rename_i he
      cases hfd:find s1.now nm with
      | none=>exact hb
      | some no=>exact hf s1 no (by rw [hn]) (by rw [hn]) (by rw [hn]) hb hfd (hg (by omega))
theorem Fit.alter {c:Chg} (hu:Fit (k + 1) s) (hp:s.pend.length ≤ k) (hn:s.now.length ≤ k) (hc:c.within s.data.length) (hm:c.nmd = true):Fit (k + 1) (s.alter c) :=
  ⟨hu.nmd.alter hm,hu.ok.alter hc,hu.n0,hu.n,by have:=length_app s.now c; show (c.app s.now).length ≤ _; omega,by show (s.pend ++ [c]).length ≤ _; rw [List.length_append]; simp; exact hp,hu.data,hu.fails,hu.room,hu.size⟩
theorem Fit.remove (h:Fit k s) (nm:ByteArray):Fit (k + 1) (s.remove nm).1 :=
  h.on nm [] _ (fun u no h1 h2 _ hu _ hg=>hu.alter (by rw [h2]; exact h.pend) (by rw [h1]; exact h.now) trivial (by simpa [Chg.nmd] using hg))
theorem Fit.rename (h:Fit k s) (a b:ByteArray):Fit (k + 1) (s.rename a b).1 :=
  h.on a [b] _ (fun u no h1 h2 h3 hu hf hg=>by
    split
    · exact hu
    · exact hu.alter (by rw [h2]; exact h.pend) (by rw [h1]; exact h.now) (hu.ok.inN _ (find_mem hf)) (by simp [Chg.nmd] at hg ⊢; exact ⟨hg.2,hg.1⟩))
theorem Fit.sync (h:Fit k s) (nm:ByteArray):Fit (k + 1) (s.sync nm).1 :=
  h.on nm [] _ (fun _ no _ _ _ hu _ _=>⟨⟨hu.nmd.now,hu.nmd.safe,hu.nmd.pend⟩,hu.ok.firm no,hu.n0,hu.n,hu.now,hu.pend,hu.data,hu.fails,hu.room,hu.size⟩)
theorem Fit.append (h:Fit k s) (nm:ByteArray) (d:List UInt8):Fit (k + 1) (s.append nm d).1 :=
  h.on nm [] _ (fun u no _ _ _ hu hf _=>by
    split
    · exact hu
    · rename_i hr
      refine ⟨⟨hu.nmd.now,hu.nmd.safe,hu.nmd.pend⟩,hu.ok.data no d,hu.n0,hu.n,hu.now,hu.pend,by show (u.data.set no _).length ≤ _; rw [List.length_set]; exact hu.data,hu.fails,hu.room,fun i=>?_⟩
      unfold Dsk.size
      dsimp only
      have hi:=hu.size i
      unfold Dsk.size at hi
      by_cases e:i = no
      · subst e
        by_cases hl:i < u.data.length
        · have hg:(u.data.set i (u.data.getD i [] ++ d)).getD i [] = u.data.getD i [] ++ d:=by simp [List.getD,hl]
          rw [hg,List.length_append]
          by_cases h0:d.length = 0
          · omega
          · have h1:=size_le_used (find_mem hf)
            unfold Dsk.size at h1
            have h2:=hu.room.2
            have h3:¬ u.room < (u.used:Int) + d.length:=fun h3=>hr ⟨by omega,h3⟩
            omega
        · rw [List.set_eq_of_length_le (by omega)]
          exact hi
      · rw [show (u.data.set no (u.data.getD no [] ++ d)).getD i [] = u.data.getD i [] by simp [List.getD,List.getElem?_set_ne (fun h=>e h.symm)]]
        exact hi)
theorem Fit.syncNames (h:Fit k s):Fit (k + 1) s.syncNames.1:=by
  have hb:=h.begin []
  unfold Dsk.syncNames
  cases hbe:s.begin [] with
  | mk s1 e =>
    rw [hbe] at hb
    dsimp only at hb ⊢
    split
    · exact hb
    · exact ⟨⟨hb.nmd.now,hb.nmd.now,(fun _ h=>by cases h)⟩,hb.ok.synced,hb.n0,hb.n,hb.now,Nat.zero_le _,hb.data,hb.fails,hb.room,hb.size⟩
theorem Fit.create (h:Fit k s) (nm:ByteArray):Fit (k + 1) (s.create nm).1:=by
  obtain ⟨n,hn⟩:=s.begin_as [nm]
  have hb:=h.begin [nm]
  have hg:=s.begin_good [nm]
  unfold Dsk.create
  cases hbe:s.begin [nm] with
  | mk s1 e =>
    rw [hbe] at hb hn hg
    dsimp only at hb hn hg ⊢
    split
    · exact hb
    · rename_i he
      split
      · exact hb
      · have hl:(s1.data ++ [([]:List UInt8)]).length = s1.data.length + 1:=by simp
        have h1:s1.data.length ≤ k:=by rw [hn]; exact h.data
        have h2:s1.pend.length ≤ k:=by rw [hn]; exact h.pend
        have h3:s1.now.length ≤ k:=by rw [hn]; exact h.now
        refine Fit.alter (s:={ s1 with data:=s1.data ++ [[]],firm:=s1.firm ++ [0] }) ⟨⟨hb.nmd.now,hb.nmd.safe,hb.nmd.pend⟩,hb.ok.newFile,hb.n0,hb.n,hb.now,hb.pend,by show (s1.data ++ [([]:List UInt8)]).length ≤ _; rw [hl]; omega,hb.fails,hb.room,fun i=>?_⟩ h2 h3 ?_ (by simpa [Chg.nmd] using hg (by omega))
        · unfold Dsk.size
          dsimp only
          have:=hb.size i
          unfold Dsk.size at this
          by_cases hi:i < s1.data.length
          · rw [show (s1.data ++ [([]:List UInt8)]).getD i [] = s1.data.getD i [] by simp [List.getD,List.getElem?_append_left hi]]
            exact this
          · have:(s1.data ++ [([]:List UInt8)]).getD i [] = []:=by
              rw [List.getD,List.getElem?_append_right (by omega)]
              cases h9:i - s1.data.length <;> simp
            rw [this]
            exact Nat.zero_le _
        · show s1.data.length < (s1.data ++ [([]:List UInt8)]).length
          rw [hl]
          omega
end
end D
end Go.Proofs.YtkempjcphpnocaaGreatDoor
namespace Go.Proofs.YtkempjcphpnocaaGreatDoor
namespace D
theorem find_del (l:NM) (nm x:ByteArray):find (del l nm) x = if x = nm then none else find l x:=by
  unfold find del
  induction l with
  | nil=>simp
  | cons p r ih =>
    by_cases h1:p.1 = nm
    · rw [List.filter_cons_of_neg (by simpa using h1),ih]
      by_cases h2:x = nm
      · rw [if_pos h2,if_pos h2]
      · rw [if_neg h2,if_neg h2,List.find?_cons]
        have:decide (p.1 = x) = false:=decide_eq_false (fun h=>h2 (h ▸ h1))
        rw [this]
    · rw [List.filter_cons_of_pos (by simpa using h1),List.find?_cons,List.find?_cons]
      by_cases h3:p.1 = x
      · have h4:¬ x = nm:=fun h=>h1 (h3.trans h)
        rw [decide_eq_true h3,if_neg h4]
      · rw [decide_eq_false h3]
        exact ih
theorem find_ins {l:NM} {nm:ByteArray} {no:Nat} (hn:∀ p ∈ l,p.1 ≠ nm) (x:ByteArray):find (ins l nm no) x = if x = nm then some no else find l x:=by
  unfold find
  induction l with
  | nil =>
    unfold ins
    by_cases h:x = nm
    · subst h; simp
    · have:¬ nm = x:=fun e=>h e.symm
      simp [h,this]
  | cons p r ih =>
    have hp:=hn p (by simp)
    have ih2:=ih (fun q hq=>hn q (List.mem_cons_of_mem _ hq))
    unfold ins
    split
    · rw [List.find?_cons]
      by_cases h:x = nm
      · subst h; simp
      · have:¬ nm = x:=fun e=>h e.symm
        simp [h,this]
    · rw [List.find?_cons,List.find?_cons]
      by_cases h3:p.1 = x
      · have h4:¬ x = nm:=fun h=>hp (h3.trans h)
        rw [decide_eq_true h3,if_neg h4]
      · rw [decide_eq_false h3]
        exact ih2
theorem find_put (l:NM) (nm:ByteArray) (no:Nat) (x:ByteArray):find (put l nm no) x = if x = nm then some no else find l x:=by
  unfold put
  rw [find_ins (fun p hp=>(mem_del.1 hp).2),find_del]
  by_cases h:x = nm
  · rw [if_pos h,if_pos h]
  · rw [if_neg h,if_neg h,if_neg h]
theorem mem_find {l:NM} (hu:Up l) {p:ByteArray × Nat} (hp:p ∈ l):find l p.1 = some p.2:=by
  unfold find
  induction l with
  | nil=>cases hp
  | cons q r ih =>
    obtain ⟨h1,h2⟩:=List.pairwise_cons.1 hu
    rw [List.find?_cons]
    rcases List.mem_cons.1 hp with rfl | hp
    · simp
    · have hne:¬ q.1 = p.1:=fun e=>by
        have:=h1 p hp
        rw [e,lt_irrefl] at this
        cases this
      rw [decide_eq_false hne]
      exact ih h2 hp
theorem find_isSome {l:NM} {x:ByteArray}:(find l x).isSome = true ↔ ∃ no,(x,no) ∈ l:=by
  constructor
  · intro h
    obtain ⟨no,hno⟩:=Option.isSome_iff_exists.1 h
    exact ⟨no,find_mem hno⟩
  · rintro ⟨no,h⟩
    cases hf:find l x with
    | some _=>rfl
    | none=>exact absurd rfl (find_none hf _ h)
theorem up_names:∀ {l m:NM},Up l → Up m → (∀ x,(find l x).isSome = (find m x).isSome) → l.map (·.1) = m.map (·.1)
  | [],[],_,_,_=>rfl
  | [],q :: _,_,_,h=>by
    have:=h q.1
    simp [find] at this
  | p :: _,[],_,_,h=>by
    have:=h p.1
    simp [find] at this
  | p :: l,q :: m,hl,hm,h=>by
    obtain ⟨h1,h2⟩:=List.pairwise_cons.1 hl
    obtain ⟨h3,h4⟩:=List.pairwise_cons.1 hm
    have ha:∃ no,(p.1,no) ∈ q :: m:=find_isSome.1 (by rw [← h]; exact find_isSome.2 ⟨p.2,by simp⟩)
    have hb:∃ no,(q.1,no) ∈ p :: l:=find_isSome.1 (by rw [h]; exact find_isSome.2 ⟨q.2,by simp⟩)
    have e:p.1 = q.1:=by
      obtain ⟨a,ha⟩:=ha
      obtain ⟨b,hb⟩:=hb
      rcases List.mem_cons.1 ha with ha | ha
      · rw [← ha]
      · rcases List.mem_cons.1 hb with hb | hb
        · rw [← hb]
        · have t1:=h3 _ ha
          have t2:=h1 _ hb
          have:=lt_trans t1 t2
          rw [lt_irrefl] at this
          cases this
    rw [List.map_cons,List.map_cons,e]
    congr 1
    refine up_names h2 h4 (fun x=>?_)
    have hx:=h x
    unfold find at hx ⊢
    rw [List.find?_cons,List.find?_cons] at hx
    by_cases e2:p.1 = x
    · have e3:q.1 = x:=e.symm.trans e2
      have n1:l.find? (fun p=>decide (p.1 = x)) = none:=List.find?_eq_none.2 (fun r hr=>by
        have:=h1 r hr
        intro hc
        rw [e2,of_decide_eq_true hc,lt_irrefl] at this
        cases this)
      have n2:m.find? (fun p=>decide (p.1 = x)) = none:=List.find?_eq_none.2 (fun r hr=>by
        have:=h3 r hr
        intro hc
        rw [e3,of_decide_eq_true hc,lt_irrefl] at this
        cases this)
      rw [n1,n2]
    · have e3:¬ q.1 = x:=fun h=>e2 (e.trans h)
      rw [decide_eq_false e2,decide_eq_false e3] at hx
      exact hx
def cont (d:Dsk) (x:ByteArray):Option (List UInt8):=(find d.now x).map fun no=>d.data.getD no []
structure Clm (d:Dsk):Prop where
  power:d.power = -1
  fails:d.fails = []
  ok:d.Ok
  one:∀ p ∈ d.now,∀ q ∈ d.now,p.2 = q.2 → p = q
  room:(d.used:Int) ≤ d.room
def tick (d:Dsk):Dsk:={ d with n:=d.n + 1 }
section
variable {d:Dsk} {nm:ByteArray} {c:List UInt8}
theorem Clm.up (h:Clm d):d.down = false:=by
  unfold Dsk.down
  rw [h.power]
  rfl
theorem Clm.begin (h:Clm d) {ns:List ByteArray} (hg:ns.all good = true):d.begin ns = (tick d,0):=by
  unfold Dsk.begin
  rw [h.up,h.fails,hg,if_neg (by decide),if_neg (by simp),if_pos rfl,← h.fails]
  rfl
theorem Clm.tick (h:Clm d):Clm (tick d):=⟨h.power,h.fails,h.ok.count _,h.one,h.room⟩
theorem Clm.on (h:Clm d) {more:List ByteArray} (hg:(more ++ [nm]).all good = true) (f:Dsk → Nat → Dsk × Int) {no:Nat} (hf:find d.now nm = some no):d.on nm more f = f (D.tick d) no:=by
  unfold Dsk.on
  rw [h.begin hg]
  show (if (0:Int) ≠ 0 then _ else match find d.now nm with | none=>_ | some no=>_) = _
  rw [if_neg (by decide),hf]
theorem cont_some (hc:cont d nm = some c):∃ no,find d.now nm = some no ∧ d.data.getD no [] = c:=by
  unfold cont at hc
  rw [Option.map_eq_some_iff] at hc
  exact hc
theorem cont_none (hc:cont d nm = none):find d.now nm = none:=by
  unfold cont at hc
  rwa [Option.map_eq_none_iff] at hc
theorem all_one (hg:good nm = true):([nm]:List ByteArray).all good = true:=by simp [hg]
theorem sum_le_of {f g:ByteArray × Nat → Nat}:∀ (l:NM),(∀ p ∈ l,f p ≤ g p) → (l.map f).sum ≤ (l.map g).sum
  | [],_=>Nat.le_refl _
  | p :: r,h=>by
    rw [List.map_cons,List.map_cons,List.sum_cons,List.sum_cons]
    exact Nat.add_le_add (h p (by simp)) (sum_le_of r fun q hq=>h q (List.mem_cons_of_mem _ hq))
theorem sum_ins (f:ByteArray × Nat → Nat) (nm:ByteArray) (no:Nat):∀ l:NM,((ins l nm no).map f).sum = f (nm,no) + (l.map f).sum
  | []=>by simp [ins]
  | p :: r=>by
    unfold ins
    split
    · simp
    · rw [List.map_cons,List.sum_cons,sum_ins f nm no r,List.map_cons,List.sum_cons]
      omega
theorem sum_del (f:ByteArray × Nat → Nat) (nm:ByteArray) (l:NM):((del l nm).map f).sum ≤ (l.map f).sum:=by
  unfold del
  induction l with
  | nil=>exact Nat.le_refl _
  | cons p r ih =>
    rw [List.filter_cons]
    split <;> simp only [List.map_cons,List.sum_cons] <;> omega
theorem sum_del_mem (f:ByteArray × Nat → Nat) {nm:ByteArray} {no:Nat}:∀ {l:NM},(nm,no) ∈ l → ((del l nm).map f).sum + f (nm,no) ≤ (l.map f).sum
  | p :: r,h=>by
    rcases List.mem_cons.1 h with rfl | h
    · unfold del
      rw [List.filter_cons_of_neg (by simp),List.map_cons,List.sum_cons]
      have:=sum_del f nm r
      unfold del at this
      omega
    · have ih:=sum_del_mem f h
      unfold del at ih ⊢
      rw [List.filter_cons]
      split <;> simp only [List.map_cons,List.sum_cons] <;> omega
theorem one_ins {l:NM} {no:Nat} (h:∀ p ∈ l,∀ q ∈ l,p.2 = q.2 → p = q) (hn:∀ p ∈ l,p.2 ≠ no):∀ p ∈ put l nm no,∀ q ∈ put l nm no,p.2 = q.2 → p = q:=by
  intro p hp q hq e
  rcases mem_put.1 hp with rfl | hp
  · rcases mem_put.1 hq with rfl | hq
    · rfl
    · exact absurd e.symm (hn q hq.1)
  · rcases mem_put.1 hq with rfl | hq
    · exact absurd e (hn p hp.1)
    · exact h p hp.1 q hq.1 e
theorem one_del {l:NM} (h:∀ p ∈ l,∀ q ∈ l,p.2 = q.2 → p = q):∀ p ∈ del l nm,∀ q ∈ del l nm,p.2 = q.2 → p = q:=fun p hp q hq e=>h p (mem_del.1 hp).1 q (mem_del.1 hq).1 e
theorem Clm.create (h:Clm d) (hg:good nm = true) (hn:cont d nm = none):(d.create nm).2 = 0 ∧ Clm (d.create nm).1 ∧ ∀ x,cont (d.create nm).1 x = if x = nm then some [] else cont d x:=by
  have hf:=cont_none hn
  have e:d.create nm = (({ D.tick d with data:=d.data ++ [[]],firm:=d.firm ++ [0] }:Dsk).alter (.put nm d.data.length),0):=by
    unfold Dsk.create
    rw [h.begin (all_one hg)]
    show (if (0:Int) ≠ 0 then _ else if (find d.now nm).isSome then _ else _) = _
    rw [if_neg (by decide),hf]
    rfl
  rw [e]
  have hsz:∀ p ∈ d.now,(d.data ++ [([]:List UInt8)]).getD p.2 [] = d.data.getD p.2 []:=fun p hp=>by simp [List.getD,List.getElem?_append_left (h.ok.inN p hp)]
  have hlast:(d.data ++ [([]:List UInt8)]).getD d.data.length [] = []:=by simp [List.getD]
  refine ⟨rfl,⟨h.power,h.fails,(h.ok.count _).newFile.alter (c:=.put nm d.data.length) (by show d.data.length < (d.data ++ [([]:List UInt8)]).length; simp),one_ins h.one (fun p hp=>Nat.ne_of_lt (h.ok.inN p hp)),?_⟩,fun x=>?_⟩
  · have hr:=h.room
    unfold Dsk.used Dsk.size at hr ⊢
    show (((((put d.now nm d.data.length).map fun p=>((d.data ++ [([]:List UInt8)]).getD p.2 []).length)).sum:Nat):Int) ≤ d.room
    unfold put
    rw [sum_ins]
    dsimp only
    rw [hlast]
    have h1:=sum_del (fun p=>((d.data ++ [([]:List UInt8)]).getD p.2 []).length) nm d.now
    have h2:=sum_le_of (f:=fun p=>((d.data ++ [([]:List UInt8)]).getD p.2 []).length) (g:=fun p=>(d.data.getD p.2 []).length) d.now (fun p hp=>by rw [hsz p hp]; exact Nat.le_refl _)
    simp only [List.length_nil]
    omega
  · show ((find (put d.now nm d.data.length) x).map fun no=>(d.data ++ [([]:List UInt8)]).getD no []) = _
    rw [find_put]
    by_cases hx:x = nm
    · rw [if_pos hx,if_pos hx,Option.map_some,hlast]
    · rw [if_neg hx,if_neg hx]
      unfold cont
      cases hfx:find d.now x with
      | none=>rfl
      | some no=>rw [Option.map_some,Option.map_some,hsz _ (find_mem hfx)]
theorem Clm.append (h:Clm d) (hg:good nm = true) (hc:cont d nm = some c) (b:List UInt8) :
    ((d.append nm b).2 = 92 ∧ Clm (d.append nm b).1 ∧ ∀ x,cont (d.append nm b).1 x = cont d x) ∨ ((d.append nm b).2 = 0 ∧ Clm (d.append nm b).1 ∧ ∀ x,cont (d.append nm b).1 x = if x = nm then some (c ++ b) else cont d x):=by
  obtain ⟨no,hf,hd⟩:=cont_some hc
  have hno:=h.ok.inN _ (find_mem hf)
  have e:d.append nm b = (if 0 < b.length ∧ d.room < (d.used:Int) + b.length then (D.tick d,92) else ({ D.tick d with data:=d.data.set no (d.data.getD no [] ++ b) },0)):=h.on (all_one hg) _ hf
  rw [e]
  by_cases hr:0 < b.length ∧ d.room < (d.used:Int) + b.length
  · rw [if_pos hr]
    exact .inl ⟨rfl,h.tick,fun _=>rfl⟩
  · rw [if_neg hr]
    have hsame:∀ p ∈ d.now,p.1 ≠ nm → (d.data.set no (d.data.getD no [] ++ b)).getD p.2 [] = d.data.getD p.2 []:=fun p hp hne=>by
      have:no ≠ p.2:=fun e=>hne (congrArg Prod.fst (h.one _ (find_mem hf) p hp e)).symm
      simp [List.getD,List.getElem?_set_ne this]
    have hself:(d.data.set no (d.data.getD no [] ++ b)).getD no [] = c ++ b:=by
      rw [← hd]
      simp [List.getD,hno]
    refine .inr ⟨rfl,⟨h.power,h.fails,(h.ok.count _).data no b,h.one,?_⟩,fun x=>?_⟩
    · have h0:=h.room
      have h1:=sum_del_mem (fun p=>(d.data.getD p.2 []).length) (find_mem hf)
      have h2:=sum_le_of (f:=fun p=>((d.data.set no (d.data.getD no [] ++ b)).getD p.2 []).length) (g:=fun p=>(d.data.getD p.2 []).length + if p.1 = nm then b.length else 0) d.now (fun p hp=>by
        by_cases hp1:p.1 = nm
        · have:p.2 = no:=by
            have:=find_mem hf
            have e2:=h.ok.upN
            have e3:=mem_find e2 hp
            rw [hp1,hf] at e3
            exact (Option.some.inj e3).symm
          rw [if_pos hp1,this,hself,← hd,List.length_append]
          exact Nat.le_refl _
        · rw [if_neg hp1,hsame p hp hp1]
          exact Nat.le_refl _)
      have h3:(d.now.map fun p=>(d.data.getD p.2 []).length + if p.1 = nm then b.length else 0).sum ≤ (d.now.map fun p=>(d.data.getD p.2 []).length).sum + b.length:=by
        have hup:=h.ok.upN
        clear h1 h2 hsame hself hr e h0 hf hc hno hd h
        generalize d.now = l at *
        induction l with
        | nil=>simp
        | cons p r ih =>
          obtain ⟨u1,u2⟩:=List.pairwise_cons.1 hup
          simp only [List.map_cons,List.sum_cons]
          by_cases hp1:p.1 = nm
          · have hz:(r.map fun p=>(d.data.getD p.2 []).length + if p.1 = nm then b.length else 0).sum ≤ (r.map fun p=>(d.data.getD p.2 []).length).sum:=sum_le_of r (fun q hq=>by
              have:¬ q.1 = nm:=fun e=>by
                have:=u1 q hq
                rw [hp1,e,lt_irrefl] at this
                cases this
              rw [if_neg this]
              exact Nat.le_refl _)
            rw [if_pos hp1]
            omega
          · rw [if_neg hp1]
            have:=ih u2
            omega
      have hused:d.used = (d.now.map fun p=>(d.data.getD p.2 []).length).sum:=rfl
      show (((d.now.map fun p=>((d.data.set no (d.data.getD no [] ++ b)).getD p.2 []).length).sum:Nat):Int) ≤ d.room
      by_cases hb:0 < b.length
      · have:¬ d.room < (d.used:Int) + b.length:=fun h=>hr ⟨hb,h⟩
        omega
      · have:b.length = 0:=by omega
        rw [hused] at h0
        omega
    · show ((find d.now x).map fun i=>(d.data.set no (d.data.getD no [] ++ b)).getD i []) = _
      by_cases hx:x = nm
      · rw [if_pos hx,hx,hf,Option.map_some,hself]
      · rw [if_neg hx]
        unfold cont
        cases hfx:find d.now x with
        | none=>rfl
        | some i=>rw [Option.map_some,Option.map_some,hsame _ (find_mem hfx) hx]
theorem Clm.sync (h:Clm d) (hg:good nm = true) (hc:cont d nm = some c):(d.sync nm).2 = 0 ∧ Clm (d.sync nm).1 ∧ ∀ x,cont (d.sync nm).1 x = cont d x:=by
  obtain ⟨no,hf,hd⟩:=cont_some hc
  have e:d.sync nm = ({ D.tick d with firm:=d.firm.set no (d.size no) },0):=h.on (all_one hg) _ hf
  rw [e]
  exact ⟨rfl,⟨h.power,h.fails,(h.ok.count _).firm no,h.one,h.room⟩,fun _=>rfl⟩
theorem Clm.syncNames (h:Clm d):d.syncNames.2 = 0 ∧ Clm d.syncNames.1 ∧ ∀ x,cont d.syncNames.1 x = cont d x:=by
  have e:d.syncNames = ({ D.tick d with safe:=d.now,pend:=[] },0):=by
    unfold Dsk.syncNames
    rw [h.begin (ns:=[]) rfl]
    rfl
  rw [e]
  exact ⟨rfl,⟨h.power,h.fails,(h.ok.count _).synced,h.one,h.room⟩,fun _=>rfl⟩
theorem Clm.remove (h:Clm d) (hg:good nm = true) (hc:cont d nm = some c):(d.remove nm).2 = 0 ∧ Clm (d.remove nm).1 ∧ ∀ x,cont (d.remove nm).1 x = if x = nm then none else cont d x:=by
  obtain ⟨no,hf,hd⟩:=cont_some hc
  have e:d.remove nm = ((D.tick d).alter (.del nm),0):=h.on (all_one hg) _ hf
  rw [e]
  refine ⟨rfl,⟨h.power,h.fails,(h.ok.count _).alter (c:=.del nm) trivial,one_del h.one,?_⟩,fun x=>?_⟩
  · have h1:=sum_del (fun p=>d.size p.2) nm d.now
    have h2:=h.room
    show ((((del d.now nm).map fun p=>d.size p.2).sum:Nat):Int) ≤ d.room
    unfold Dsk.used at h2
    omega
  · show ((find (del d.now nm) x).map fun i=>d.data.getD i []) = _
    rw [find_del]
    by_cases hx:x = nm
    · rw [if_pos hx,if_pos hx,Option.map_none]
    · rw [if_neg hx,if_neg hx]
      rfl
theorem Clm.rename (h:Clm d) {to_:ByteArray} (hg:good nm = true) (hg2:good to_ = true) (hne:nm ≠ to_) (hc:cont d nm = some c):(d.rename nm to_).2 = 0 ∧ Clm (d.rename nm to_).1 ∧ ∀ x,cont (d.rename nm to_).1 x = if x = to_ then some c else if x = nm then none else cont d x:=by
  obtain ⟨no,hf,hd⟩:=cont_some hc
  have e:d.rename nm to_ = ((D.tick d).alter (.ren nm to_ no),0):=by
    refine (h.on (more:=[to_]) (by simp [hg,hg2]) _ hf).trans ?_
    rw [if_neg hne]
  rw [e]
  refine ⟨rfl,⟨h.power,h.fails,(h.ok.count _).alter (c:=.ren nm to_ no) (h.ok.inN _ (find_mem hf)),one_ins (one_del h.one) (fun p hp e2=>(mem_del.1 hp).2 (congrArg Prod.fst (h.one p (mem_del.1 hp).1 _ (find_mem hf) e2))),?_⟩,fun x=>?_⟩
  · have h1:=sum_del_mem (fun p=>d.size p.2) (find_mem hf)
    have h2:=h.room
    have h3:=sum_del (fun p=>d.size p.2) to_ (del d.now nm)
    show ((((put (del d.now nm) to_ no).map fun p=>d.size p.2).sum:Nat):Int) ≤ d.room
    unfold Dsk.used at h2
    unfold put
    rw [sum_ins]
    dsimp only at h1 ⊢
    omega
  · show ((find (put (del d.now nm) to_ no) x).map fun i=>d.data.getD i []) = _
    rw [find_put,find_del]
    by_cases hx:x = to_
    · rw [if_pos hx,if_pos hx,Option.map_some,hd]
    · rw [if_neg hx,if_neg hx]
      by_cases hx2:x = nm
      · rw [if_pos hx2,if_pos hx2,Option.map_none]
      · rw [if_neg hx2,if_neg hx2]
        rfl
theorem Clm.read (h:Clm d) (hg:good nm = true):d.read nm = match cont d nm with | some c=>(c,0) | none=>([],90):=by
  unfold Dsk.read cont
  rw [h.up,hg,if_neg (by decide),if_neg (by decide)]
  cases find d.now nm <;> rfl
theorem Clm.mem (h:Clm d) (x:ByteArray):x ∈ d.list ↔ (cont d x).isSome = true:=by
  unfold Dsk.list cont
  rw [h.up,if_neg (by decide),Option.isSome_map,find_isSome,List.mem_map]
  constructor
  · rintro ⟨p,hp,rfl⟩
    exact ⟨p.2,hp⟩
  · rintro ⟨no,hp⟩
    exact ⟨_,hp,rfl⟩
theorem Clm.names (h:Clm d) {d':Dsk} (h':Clm d') (hx:∀ x,(cont d' x).isSome = (cont d x).isSome):d'.list = d.list:=by
  unfold Dsk.list
  rw [h.up,h'.up,if_neg (by decide),if_neg (by decide)]
  refine up_names h'.ok.upN h.ok.upN (fun x=>?_)
  have:=hx x
  unfold cont at this
  rwa [Option.isSome_map,Option.isSome_map] at this
end
end D
end Go.Proofs.YtkempjcphpnocaaGreatDoor
