/- Rows of entries, and lists of a script's steps, in memory. No condition: plain lemmas. The log's records: what is written is read back, one by one and all of them. No program here. The walks of rec.Decode and of Replay at no bytes. No condition. The walk of the log's Open over a disk without a log, where its three first steps answer OK. Conditions: what the disk's steps ask. -/
import Derived.Test.YtkempjcphpnocaaGreatDoorStoU
import Derived.Test.YtkempjcphpnocaaGreatDoorZ14
import Derived.Test.YtkempjcphpnocaaGreatDoorZ11
import Derived.Test.YtkempjcphpnocaaGreatDoorLogB
import Derived.RangeFuncBox
import Derived.RangeFuncNested
import Derived.RangeFuncLeaves
import Derived.OwnWalkIn
import Derived.TacticsInMore
import Derived.LoopIn
import Derived.Test.YtkempjcphpnocaaGreatDoorZ25
namespace Go.Proofs.YtkempjcphpnocaaGreatDoor
open Go Go.RowKit Go.Maps
structure EP where
  E:O.Ent
  A:Option Addr
  c:Nat
  X:Option Addr
  d:Nat
def EP.v (p:EP):Value:=entV p.E p.A p.c p.X p.d
def ecells:List EP → List Value
  | []=>[]
  | p :: t=>.string p.E.k :: .string p.E.v :: .int .i64 p.E.s :: .string p.E.r :: .int .i64 p.E.m :: .slice p.A p.E.fs.length p.c :: .slice p.X p.E.body.length p.d :: .int .i64 p.E.asked :: .int .i64 p.E.got :: ecells t
def EAt (w:World) (b o:Nat) (p:EP):Prop:=w.cell? ⟨b,o,none⟩ = some (.string p.E.k) ∧ w.cell? ⟨b,o + 1,none⟩ = some (.string p.E.v) ∧ w.cell? ⟨b,o + 2,none⟩ = some (.int .i64 p.E.s) ∧ w.cell? ⟨b,o + 3,none⟩ = some (.string p.E.r) ∧ w.cell? ⟨b,o + 4,none⟩ = some (.int .i64 p.E.m) ∧ w.cell? ⟨b,o + 5,none⟩ = some (.slice p.A p.E.fs.length p.c) ∧ w.cell? ⟨b,o + 6,none⟩ = some (.slice p.X p.E.body.length p.d) ∧ w.cell? ⟨b,o + 7,none⟩ = some (.int .i64 p.E.asked) ∧ w.cell? ⟨b,o + 8,none⟩ = some (.int .i64 p.E.got)
def ERd (w:World) (p:EP):Prop:=Rd w p.A p.E.fs.length 2 (fcells p.E.fs) ∧ Rd w p.X p.E.body.length 1 (bcells p.E.body)
def EOwn (w:World) (base:Nat) (p:EP):Prop:=Row w base 167 2 p.A p.E.fs.length p.c (fcells p.E.fs) ∧ Row w base 5 1 p.X p.E.body.length p.d (bcells p.E.body)
section
variable {w w':World} {base:Nat} {p:EP} {F F':Nat → Prop}
theorem ERd.below (h:ERd w p) (hb:Below w.heap.size w w'):ERd w' p:=⟨h.1.below hb,h.2.below hb⟩
theorem EOwn.rd (h:EOwn w base p):ERd w p:=⟨h.1.rd,h.2.rd⟩
theorem EOwn.below (h:EOwn w base p) (hb:Below w.heap.size w w'):EOwn w' base p:=⟨h.1.below hb,h.2.below hb⟩
theorem EOwn.mono (h:EOwn w base p) {b:Nat} (hb:b ≤ base):EOwn w b p:=⟨h.1.mono hb,h.2.mono hb⟩
theorem EOwn.went (h:EOwn w base p) (hw:Went F w F' w') (hF:∀ k,F k → k < base):EOwn w' base p :=
  ⟨hw.row h.1 (fun k hk hf=>by have:=(h.1.lt k hk).1; have:=hF k hf; omega),hw.row h.2 (fun k hk hf=>by have:=(h.2.lt k hk).1; have:=hF k hf; omega)⟩
end
structure ERow (w:World) (base:Nat) (A:Option Addr) (c:Nat) (l:List EP):Prop where
  row:Row w base 28 9 A l.length c (ecells l)
  all:∀ p ∈ l,EOwn w base p
section
variable {w w' w1 w2:World} {base:Nat} {A:Option Addr} {c:Nat} {l:List EP} {F F':Nat → Prop}
theorem ERow.nil (w:World) (base:Nat) (A:Option Addr):ERow w base A 0 []:=⟨Row.empty _ _ _ _ _,by simp⟩
theorem ERow.below (h:ERow w base A c l) (hb:Below w.heap.size w w'):ERow w' base A c l:=⟨h.row.below hb,fun p hp=>(h.all p hp).below hb⟩
theorem ERow.went (h:ERow w base A c l) (hw:Went F w F' w') (hF:∀ k,F k → k < base):ERow w' base A c l :=
  ⟨hw.row h.row (fun k hk hf=>by have:=(h.row.lt k hk).1; have:=hF k hf; omega),fun p hp=>(h.all p hp).went hw hF⟩
theorem ERow.snoc {A':Option Addr} {c':Nat} {p:EP} (h:ERow w1 base A c l) (hx:EOwn w1 base p) (hr:Row w2 base 28 9 A' (l.length + 1) c' (ecells (l ++ [p]))) (ha:App w1 w2 A c A' c'):ERow w2 base A' c' (l ++ [p]):=by
  refine ⟨by rw [List.length_append]; exact hr,fun q hq=>?_⟩
  have hq1:EOwn w1 base q:=by
    rcases List.mem_append.1 hq with hm | hm
    · exact h.all q hm
    · rw [List.mem_singleton.1 hm]; exact hx
  exact ⟨hq1.1.keptG ha.grown (fun k hk e=>(hq1.1.tag hk).ne (h.row.tag e) (by decide) rfl),hq1.2.keptG ha.grown (fun k hk e=>(hq1.2.tag hk).ne (h.row.tag e) (by decide) rfl)⟩
end
def stcells:List (EP × ByteArray) → List Value
  | []=>[]
  | p :: t=>.string p.1.E.k :: .string p.1.E.v :: .int .i64 p.1.E.s :: .string p.1.E.r :: .int .i64 p.1.E.m :: .slice p.1.A p.1.E.fs.length p.1.c :: .slice p.1.X p.1.E.body.length p.1.d :: .int .i64 p.1.E.asked :: .int .i64 p.1.E.got :: .string p.2 :: stcells t
theorem stcells_length:∀ l,(stcells l).length = l.length * 10
  | []=>rfl
  | p :: t=>by simp [stcells,stcells_length t]; omega
theorem stcells_at:∀ (l:List (EP × ByteArray)) (k:Nat) (h:k < l.length),(stcells l)[k * 10]? = some (.string l[k].1.E.k) ∧ (stcells l)[k * 10 + 1]? = some (.string l[k].1.E.v) ∧ (stcells l)[k * 10 + 2]? = some (.int .i64 l[k].1.E.s) ∧ (stcells l)[k * 10 + 3]? = some (.string l[k].1.E.r) ∧ (stcells l)[k * 10 + 4]? = some (.int .i64 l[k].1.E.m) ∧ (stcells l)[k * 10 + 5]? = some (.slice l[k].1.A l[k].1.E.fs.length l[k].1.c) ∧ (stcells l)[k * 10 + 6]? = some (.slice l[k].1.X l[k].1.E.body.length l[k].1.d) ∧ (stcells l)[k * 10 + 7]? = some (.int .i64 l[k].1.E.asked) ∧ (stcells l)[k * 10 + 8]? = some (.int .i64 l[k].1.E.got) ∧ (stcells l)[k * 10 + 9]? = some (.string l[k].2)
  | p :: t,0,_=>by simp [stcells]
  | p :: t,k + 1,h=>by
    have:=stcells_at t k (by simpa using h)
    have e:(k + 1) * 10 = k * 10 + 10:=by omega
    simp only [stcells,e,List.getElem_cons_succ]
    exact this
theorem rd_step {w:World} {A:Option Addr} {n k:Nat} {l:List (EP × ByteArray)} (h:Rd w A n 10 (stcells l)) (hk:k < n) (hl:l.length = n):∃ b o,A = some ⟨b,o,none⟩ ∧ b < w.heap.size ∧ EAt w b (o + k * 10) (l[k]'(by omega)).1 ∧ w.cell? ⟨b,o + k * 10 + 9,none⟩ = some (.string (l[k]'(by omega)).2):=by
  obtain ⟨b,o,rfl,hb,hc⟩:=h.2 (by omega)
  obtain ⟨h0,h1,h2,h3,h4,h5,h6,h7,h8,h9⟩:=stcells_at l k (by omega)
  refine ⟨b,o,rfl,hb,⟨hc _ _ h0,?_,?_,?_,?_,?_,?_,?_,?_⟩,?_⟩
  all_goals rw [Nat.add_assoc]
  · exact hc _ _ h1
  · exact hc _ _ h2
  · exact hc _ _ h3
  · exact hc _ _ h4
  · exact hc _ _ h5
  · exact hc _ _ h6
  · exact hc _ _ h7
  · exact hc _ _ h8
  · exact hc _ _ h9
theorem rd_cut {w:World} {A:Option Addr} {n k:Nat} {l:List (EP × ByteArray)} (h:Rd w A n 10 (stcells l)) (hl:l.length = n) (hk:k ≤ n):Rd w A k 10 (stcells (l.take k)):=by
  refine ⟨by rw [stcells_length,List.length_take]; omega,fun hk0=>?_⟩
  obtain ⟨b,o,rfl,hb,hc⟩:=h.2 (by omega)
  refine ⟨b,o,rfl,hb,fun j u hu=>hc j u ?_⟩
  have hsplit:stcells l = stcells (l.take k) ++ stcells (l.drop k):=by
    have:∀ a b:List (EP × ByteArray),stcells (a ++ b) = stcells a ++ stcells b:=by
      intro a b
      induction a with
      | nil=>rfl
      | cons x t ih=>simp [stcells,ih]
    rw [← this,List.take_append_drop]
  rw [hsplit,List.getElem?_append_left (List.getElem?_eq_some_iff.1 hu).1]
  exact hu
end Go.Proofs.YtkempjcphpnocaaGreatDoor
namespace Go.Proofs.YtkempjcphpnocaaGreatDoor
namespace R
theorem code_facts {r:Rc} (h:code r = 0):(r.op = 1 ∨ r.op = 2) ∧ 0 ≤ r.seq ∧ r.seq ≤ 4294967295 ∧ 0 ≤ r.no ∧ r.no ≤ 4294967295 ∧ r.id.size ≤ 4096:=by
  unfold code at h
  split at h
  · rename_i h1
    split at h
    · rename_i h2
      unfold word at h1
      simp only [Bool.and_eq_true,Bool.or_eq_true,decide_eq_true_eq] at h1
      exact ⟨h1.1.1,h1.1.2.1,h1.1.2.2,h1.2.1,h1.2.2,h2⟩
    · cases h
  · cases h
theorem code_ok {seq op no:Int} {id:ByteArray} (h1:op = 1 ∨ op = 2) (h2:0 ≤ seq ∧ seq ≤ 4294967295) (h3:0 ≤ no ∧ no ≤ 4294967295) (h4:id.size ≤ 4096):code ⟨seq,op,no,id⟩ = 0:=by
  rw [code_id h1 (decide_eq_true h2) (decide_eq_true h3),if_pos h4]
theorem drop_at {a b:List UInt8} {k:Nat} (h:a.length = k):(a ++ b).drop k = b:=by
  rw [← h]
  exact List.drop_left
theorem take_at {a b:List UInt8} {k:Nat} (h:a.length = k):(a ++ b).take k = a:=by
  rw [← h]
  exact List.take_left
theorem dec_enc {r:Rc} (h:code r = 0) (rest:List UInt8):dec (enc r ++ rest) = (r,r.id.size + 15,0):=by
  obtain ⟨h1,h2,h3,h4,h5,h6⟩:=code_facts h
  rw [enc_good h]
  generalize hS:beN (sumN (body r)) 4 = S
  have hSl:S.length = 4:=by rw [← hS,beN_len]
  have hSv:O.val S = sumN (body r):=by
    rw [← hS]
    exact O.val_num (sumN_lt _)
  unfold body at hSv ⊢
  generalize hA:beN r.id.size 2 = A at *
  generalize hQ:beN r.seq.toNat 4 = Q at *
  generalize hN:beN r.no.toNat 4 = N at *
  have hAl:A.length = 2:=by rw [← hA,beN_len]
  have hQl:Q.length = 4:=by rw [← hQ,beN_len]
  have hNl:N.length = 4:=by rw [← hN,beN_len]
  have hAv:O.val A = r.id.size:=by rw [← hA]; exact O.val_num (by omega)
  have hQv:O.val Q = r.seq.toNat:=by rw [← hQ]; exact O.val_num (by omega)
  have hNv:O.val N = r.no.toNat:=by rw [← hN]; exact O.val_num (by omega)
  have hil:(L r.id).length = r.id.size:=(L_size r.id).symm
  generalize hx:UInt8.ofNat (192 + r.op.toNat) = x at *
  have e:(x :: (A ++ (Q ++ (N ++ L r.id)))) ++ S ++ rest = x :: (A ++ (Q ++ (N ++ (L r.id ++ (S ++ rest))))):=by simp
  rw [e]
  have hl:(x :: (A ++ (Q ++ (N ++ (L r.id ++ (S ++ rest)))))).length = r.id.size + 15 + rest.length:=by
    simp only [List.length_cons,List.length_append]
    omega
  have t1:((x :: (A ++ (Q ++ (N ++ (L r.id ++ (S ++ rest)))))).drop 1).take 2 = A:=by
    rw [List.drop_one,List.tail_cons,take_at hAl]
  have t2:((x :: (A ++ (Q ++ (N ++ (L r.id ++ (S ++ rest)))))).drop (r.id.size + 11)).take 4 = S:=by
    rw [show x :: (A ++ (Q ++ (N ++ (L r.id ++ (S ++ rest))))) = (x :: (A ++ (Q ++ (N ++ L r.id)))) ++ (S ++ rest) by simp,drop_at (by simp only [List.length_cons,List.length_append]; omega),take_at hSl]
  have t3:(x :: (A ++ (Q ++ (N ++ (L r.id ++ (S ++ rest)))))).take (r.id.size + 11) = x :: (A ++ (Q ++ (N ++ L r.id))):=by
    rw [show x :: (A ++ (Q ++ (N ++ (L r.id ++ (S ++ rest))))) = (x :: (A ++ (Q ++ (N ++ L r.id)))) ++ (S ++ rest) by simp,take_at (by simp only [List.length_cons,List.length_append]; omega)]
  have t4:((x :: (A ++ (Q ++ (N ++ (L r.id ++ (S ++ rest)))))).drop 3).take 4 = Q:=by
    rw [show x :: (A ++ (Q ++ (N ++ (L r.id ++ (S ++ rest))))) = (x :: A) ++ (Q ++ (N ++ (L r.id ++ (S ++ rest)))) by simp,drop_at (by simp only [List.length_cons]; omega),take_at hQl]
  have t5:((x :: (A ++ (Q ++ (N ++ (L r.id ++ (S ++ rest)))))).drop 7).take 4 = N:=by
    rw [show x :: (A ++ (Q ++ (N ++ (L r.id ++ (S ++ rest))))) = (x :: (A ++ Q)) ++ (N ++ (L r.id ++ (S ++ rest))) by simp,drop_at (by simp only [List.length_cons,List.length_append]; omega),take_at hNl]
  have t6:((x :: (A ++ (Q ++ (N ++ (L r.id ++ (S ++ rest)))))).drop 11).take r.id.size = L r.id:=by
    rw [show x :: (A ++ (Q ++ (N ++ (L r.id ++ (S ++ rest))))) = (x :: (A ++ (Q ++ N))) ++ (L r.id ++ (S ++ rest)) by simp,drop_at (by simp only [List.length_cons,List.length_append]; omega),take_at hil]
  have hxop:(x.toNat:Int) - 192 = r.op ∧ (x = 193 ∨ x = 194):=by
    rw [← hx]
    rcases h1 with h1 | h1
    · rw [h1]; exact ⟨rfl,.inl rfl⟩
    · rw [h1]; exact ⟨rfl,.inr rfl⟩
  unfold dec
  rw [if_neg (by rw [hl]; omega),if_neg (by simp only [List.headD_cons]; rcases hxop.2 with h | h <;> simp [h]),if_neg (by rw [hl]; omega),t1,hAv,if_neg (by omega),if_neg (by rw [hl]; omega),t2,t3,hSv,if_neg (by simp),t4,t5,t6,hQv,hNv]
  have hid:B (L r.id) = r.id:=by
    apply D.L_inj
    rw [L_B]
  rw [hid,List.headD_cons,hxop.1,Int.toNat_of_nonneg h2,Int.toNat_of_nonneg h4]
def encs (rs:List Rc):List UInt8:=rs.flatMap enc
def Seqd:Nat → List Rc → Prop
  | _,[]=>True
  | k,r :: t=>r.seq = k ∧ Seqd (k + 1) t
structure Good (rs:List Rc):Prop where
  code:∀ r ∈ rs,R.code r = 0
  seq:Seqd 0 rs
theorem seqd_snoc:∀ {rs:List Rc} {k:Nat} {r:Rc},Seqd k rs → r.seq = ((k + rs.length:Nat):Int) → Seqd k (rs ++ [r])
  | [],k,r,_,h=>⟨by simpa using h,trivial⟩
  | x :: t,k,r,h,hr=>⟨h.1,seqd_snoc h.2 (by rw [hr,List.length_cons]; congr 1; omega)⟩
theorem recs_encs:∀ (rs:List Rc) (k at_ f:Nat),Seqd k rs → (∀ r ∈ rs,code r = 0) → rs.length ≤ f →
    (recs f (encs rs) at_ k).map (·.1) = rs ∧ ((recs f (encs rs) at_ k).getLast?.map (·.2)).getD at_ = at_ + (encs rs).length
  | [],k,at_,f,_,_,_=>by
    have:recs f (encs []) at_ k = []:=by
      cases f with
      | zero=>rfl
      | succ f=>exact if_pos (.inr (.inl rfl))
    rw [this]
    exact ⟨rfl,rfl⟩
  | r :: t,k,at_,0,_,_,h=>by simp at h
  | r :: t,k,at_,f + 1,hs,hc,hl=>by
    have e:dec (encs (r :: t)) = (r,r.id.size + 15,0):=by
      unfold encs
      rw [List.flatMap_cons]
      exact dec_enc (hc r (by simp)) _
    have hd:(encs (r :: t)).drop (r.id.size + 15) = encs t:=by
      unfold encs
      rw [List.flatMap_cons]
      exact drop_at (enc_len r (hc r (by simp)))
    have e2:recs (f + 1) (encs (r :: t)) at_ k = (r,at_ + (r.id.size + 15)) :: recs f (encs t) (at_ + (r.id.size + 15)) (k + 1):=by
      rw [recs,e,hd]
      dsimp only
      rw [if_neg]
      rintro (h | h | h)
      · exact h rfl
      · omega
      · exact h hs.1
    obtain ⟨i1,i2⟩:=recs_encs t (k + 1) (at_ + (r.id.size + 15)) f hs.2 (fun x hx=>hc x (List.mem_cons_of_mem _ hx)) (by simp at hl; omega)
    rw [e2]
    refine ⟨by rw [List.map_cons,i1],?_⟩
    have hlen:(encs (r :: t)).length = (r.id.size + 15) + (encs t).length:=by
      unfold encs
      rw [List.flatMap_cons,List.length_append,enc_len r (hc r (by simp))]
    have e3:at_ + (r.id.size + 15 + (encs t).length) = at_ + (r.id.size + 15) + (encs t).length:=by omega
    rw [hlen,e3,← i2]
    cases hr:recs f (encs t) (at_ + (r.id.size + 15)) (k + 1) with
    | nil=>rfl
    | cons y l=>rw [List.getLast?_cons_cons]; simp [List.getLast?_cons]
theorem len_encs:∀ (rs:List Rc),(∀ r ∈ rs,code r = 0) → rs.length ≤ (encs rs).length ∧ (encs rs).length ≤ 4111 * rs.length
  | [],_=>⟨Nat.le_refl _,Nat.le_refl _⟩
  | r :: t,h=>by
    obtain ⟨h1,h2⟩:=len_encs t (fun x hx=>h x (List.mem_cons_of_mem _ hx))
    have h3:=enc_len r (h r (by simp))
    have h4:=(code_facts (h r (by simp))).2.2.2.2.2
    unfold encs at *
    rw [List.flatMap_cons,List.length_append,List.length_cons]
    omega
theorem replay_encs {rs:List Rc} (h:Good rs):replay (encs rs) = (rs,(encs rs).length):=by
  obtain ⟨h1,h2⟩:=recs_encs rs 0 0 (encs rs).length h.seq h.code (len_encs rs h.code).1
  unfold replay
  rw [h1,h2,Nat.zero_add]
def renum:Nat → List Rc → List Rc
  | _,[]=>[]
  | k,r :: t=>{ r with seq:=k } :: renum (k + 1) t
theorem renum_len:∀ (k:Nat) (l:List Rc),(renum k l).length = l.length
  | _,[]=>rfl
  | k,_ :: t=>congrArg (· + 1) (renum_len (k + 1) t)
theorem renum_seq:∀ (k:Nat) (l:List Rc),Seqd k (renum k l)
  | _,[]=>trivial
  | k,_ :: t=>⟨rfl,renum_seq (k + 1) t⟩
theorem renum_code:∀ (l:List Rc) (k:Nat),(∀ r ∈ l,r.seq = 0 ∧ code r = 0) → k + l.length ≤ 4294967295 → ∀ r ∈ renum k l,code r = 0
  | [],_,_,_,r,hr=>by cases hr
  | x :: t,k,h,hk,r,hr=>by
    simp only [List.length_cons] at hk
    rcases List.mem_cons.1 hr with rfl | hr
    · obtain ⟨h1,h2,h3,h4,h5,h6⟩:=code_facts (h x (by simp)).2
      exact code_ok h1 (by omega) ⟨h4,h5⟩ h6
    · exact renum_code t (k + 1) (fun y hy=>h y (List.mem_cons_of_mem _ hy)) (by omega) r hr
theorem encAll_renum:∀ (l:List Rc) (k:Nat) (b:List UInt8),(∀ r ∈ renum k l,code r = 0) → encAll l k b = (b ++ encs (renum k l),0)
  | [],_,b,_=>by simp [encAll,encs,renum]
  | r :: t,k,b,h=>by
    have h0:code { r with seq:=(k:Int) } = 0:=h _ (by simp [renum])
    rw [encAll,h0,if_neg (by decide),encAll_renum t (k + 1) _ (fun x hx=>h x (by rw [renum]; exact List.mem_cons_of_mem _ hx)),renum]
    unfold encs
    rw [List.flatMap_cons,List.append_assoc]
end R
namespace S
def tstep (t:D.NM) (r:R.Rc):D.NM:=if r.op = 1 then D.put t r.id r.no.toNat else D.del t r.id
theorem tabOf_snoc (rs:List R.Rc) (r:R.Rc):tabOf (rs ++ [r]) = tstep (tabOf rs) r:=by
  unfold tabOf
  rw [List.foldl_append]
  rfl
theorem put_last:∀ {l:D.NM} {nm:ByteArray} {no:Nat},(∀ p ∈ l,D.ltB p.1 nm = true) → D.put l nm no = l ++ [(nm,no)]:=by
  intro l nm no h
  have e1:D.del l nm = l:=by
    unfold D.del
    rw [List.filter_eq_self]
    intro p hp
    have:=h p hp
    simp only [decide_eq_true_eq]
    intro e
    rw [e,D.lt_irrefl] at this
    cases this
  unfold D.put
  rw [e1]
  clear e1
  induction l with
  | nil=>rfl
  | cons p r ih =>
    have h1:=h p (by simp)
    rw [D.ins,if_neg,ih (fun q hq=>h q (List.mem_cons_of_mem _ hq))]
    · rfl
    · intro h2
      have:=D.lt_trans h1 h2
      rw [D.lt_irrefl] at this
      cases this
theorem tab_fold:∀ (t acc:D.NM) (k:Nat),D.Up (acc ++ t) → (R.renum k (records t)).foldl tstep acc = acc ++ t
  | [],acc,k,_=>by simp [records,R.renum]
  | p :: r,acc,k,h=>by
    have h1:=List.pairwise_append.1 h
    have e:tstep acc { (⟨0,1,p.2,p.1⟩:R.Rc) with seq:=(k:Int) } = acc ++ [p]:=by
      unfold tstep
      rw [if_pos rfl]
      show D.put acc p.1 ((p.2:Int)).toNat = _
      rw [put_last (fun q hq=>h1.2.2 q hq p (by simp)),Int.toNat_natCast]
    show (R.renum (k + 1) (records r)).foldl tstep (tstep acc _) = _
    rw [e,tab_fold r (acc ++ [p]) (k + 1) (by rw [List.append_assoc]; exact h)]
    simp
theorem tab_records {t:D.NM} (h:D.Up t):tabOf (R.renum 0 (records t)) = t:=by
  have:=tab_fold t [] 0 h
  rw [List.nil_append] at this
  exact this
theorem records_good {t:D.NM} (ht:∀ p ∈ t,p.2 < 4096 ∧ p.1.size ≤ 4096) (hl:t.length ≤ 4294967295):R.Good (R.renum 0 (records t)):=by
  refine ⟨R.renum_code _ 0 ?_ ?_,R.renum_seq _ _⟩
  · intro r hr
    obtain ⟨p,hp,rfl⟩:=List.mem_map.1 hr
    have:=ht p hp
    exact ⟨rfl,R.code_ok (.inl rfl) (by decide) (by omega) this.2⟩
  · unfold records
    rw [List.length_map]
    omega
end S
end Go.Proofs.YtkempjcphpnocaaGreatDoor
namespace Go.Proofs.YtkempjcphpnocaaGreatDoor
open Go Go.RowKit Go.Maps
def recV (r:R.Rc):Value:=.agg #[.int .i64 r.seq,.int .i64 r.op,.int .i64 r.no,.string r.id]
set_option maxHeartbeats 1000000 in
theorem rdec0_any (A:Option Addr) (c:Nat) (w:World):Calls Tryz.prog 120 #[.slice A 0 c] w (fun e w'=>e = .returned (.tuple #[recV R.Rc.zero,.int .i64 0,.int .i64 0]) ∧ Below w.heap.size w w'):=by
  have HK:=Lib.hid (Blk.new w #[.int .i64 0,.int .i64 0,.int .i64 0,.string ⟨#[]⟩] 89)
  have HB:=Lib.hid ((Below.refl w.heap.size w).alloc (Nat.le_refl _) (.cells #[.int .i64 0,.int .i64 0,.int .i64 0,.string ⟨#[]⟩] 89))
  go_enter Tryz.func120,Tryz.ntmps120
  go_wp2
  obtain ⟨z0,z1,z2,z3⟩:=HK.out.cells4
  (try simp only [Exit.inBlock,Exit.then])
  refine bodyPost_ret (v:=.tuple #[recV R.Rc.zero,.int .i64 0,.int .i64 0]) (by simp [results,Tryz.results120,go_sem,z0,z1,z2,z3,recV,R.Rc.zero]) rfl ?_
  exact ⟨rfl,HB.out⟩
set_option maxHeartbeats 1000000 in
theorem recs0_any (l bx:Nat) (c:Nat) (A:Option Addr) (hA:A = none → c = 0) (w:World) (hc:w.cell? ⟨bx,0,none⟩ = some (.slice A 0 c)) :
    Calls Tryz.prog 119 #[.func (.yield l) #[] #[],.pointer (some ⟨bx,0,none⟩)] w (fun e w'=>(∃ v,e = .returned v) ∧ w.grownBy w' none):=by
  have HC:=Lib.hid (fun A c u=>rdec0_any A c u)
  by_cases h0:c = 0
  · subst h0
    go_enter Tryz.func119,Tryz.ntmps119
    go_wp2
    go_loopw [3,4] (fun a b wr=>a = .int .i64 0 ∧ b = .int .i64 0 ∧ wr = w) (fun _ _ _=>0)
    case atStart=>exact ⟨rfl,rfl,rfl⟩
    case round =>
      obtain ⟨rfl,rfl,rfl⟩:=hrel
      go_wp2_with fail
      refine (HC.out _ _ _).mono ?_
      rintro e w1 ⟨rfl,hb⟩
      have hg:wr.grownBy w1 none:=⟨hb.os,hb.tape,hb.output,hb.size,fun k hk _=>hb.block k hk⟩
      have HG:=Lib.hid (hg.trans (World.grownBy_alloc w1 (.cells #[.int .i64 0,.int .i64 0,.int .i64 0,.string ⟨#[]⟩] 89) none))
      have HK:=Lib.hid (Blk.new w1 #[.int .i64 0,.int .i64 0,.int .i64 0,.string ⟨#[]⟩] 89)
      clear hb hg HC
      unfold recV R.Rc.zero
      go_wp2
      refine bodyPost_ret (results_none rfl _ _ _) rfl ?_
      exact ⟨⟨_,rfl⟩,HG.out⟩
  · obtain ⟨⟨b,o,f⟩,rfl⟩:∃ a,A = some a:=by
      cases A with
      | none=>exact absurd (hA rfl) h0
      | some a=>exact ⟨a,rfl⟩
    have hcp:0 < c:=by omega
    go_enter Tryz.func119,Tryz.ntmps119
    go_wp2
    go_loopw [3,4] (fun a b wr=>a = .int .i64 0 ∧ b = .int .i64 0 ∧ wr = w) (fun _ _ _=>0)
    case atStart=>exact ⟨rfl,rfl,rfl⟩
    case round =>
      obtain ⟨rfl,rfl,rfl⟩:=hrel
      go_wp2_with fail
      refine (HC.out _ _ _).mono ?_
      rintro e w1 ⟨rfl,hb⟩
      have hg:wr.grownBy w1 none:=⟨hb.os,hb.tape,hb.output,hb.size,fun k hk _=>hb.block k hk⟩
      have HG:=Lib.hid (hg.trans (World.grownBy_alloc w1 (.cells #[.int .i64 0,.int .i64 0,.int .i64 0,.string ⟨#[]⟩] 89) none))
      have HK:=Lib.hid (Blk.new w1 #[.int .i64 0,.int .i64 0,.int .i64 0,.string ⟨#[]⟩] 89)
      clear hb hg HC
      unfold recV R.Rc.zero
      go_wp2
      refine bodyPost_ret (results_none rfl _ _ _) rfl ?_
      exact ⟨⟨_,rfl⟩,HG.out⟩
set_option maxHeartbeats 1000000 in
theorem srecords_any (A:Option Addr) (n c:Nat) (w:World) :
    Calls Tryz.prog 97 #[.slice A n c] w (fun e w'=>e = .returned (.func (.func 119) #[] #[.pointer (some ⟨w.heap.size,0,none⟩)]) ∧ w' = w.alloc (.cells #[.slice A n c] 26)):=by
  go_enter Tryz.func97,Tryz.ntmps97
  go_wp2
  go_ret
  exact ⟨rfl,rfl⟩
theorem recs0_stops (n bx n₀:Nat) (A:Option Addr) (c:Nat) (hA:A = none → c = 0) (w:World) (hB:bx < w.heap.size) (hc:w.cell? ⟨bx,0,none⟩ = some (.slice A 0 c)) :
    SeqStopsK Fence.wide n Tryz.prog 119 #[.pointer (some ⟨bx,0,none⟩)] (fun x:Empty=>x.elim) (Below n₀) (fun ys=>ys = []) (fun _=>False) 0 w:=fun l J Jx W hW hJ _ _ h0 =>
  callsIn_wide.2 ((recs0_any l bx c A hA W ((hW.cell (p:=⟨bx,0,none⟩) hB).trans hc)).mono fun e w' h=>⟨h.1,.inl ⟨[],rfl,hJ [] W w' none h0 h.2 (fun r hr=>by cases hr)⟩⟩)
set_option maxRecDepth 100000 in
set_option maxHeartbeats 2000000 in
theorem replay0_any (A:Option Addr) (c:Nat) (hA:A = none → c = 0) (w:World) :
    Calls Tryz.prog 64 #[.slice A 0 c] w (fun e w'=>e = .returned (.tuple #[.slice none 0 0,.int .i64 0]) ∧ Below w.heap.size w w'):=by
  refine (callsIn_wide (n:=9)).1 ?_
  refine callsIn_of_wp_marks Tryz.func64 rfl trivial ?_ rfl
  simp only [Tryz.ntmps64,List.size_toArray,List.length_cons,List.length_nil,Nat.reduceAdd,Nat.reduceSub,Array.replicate_succ,Array.replicate_zero,List.push_toArray,List.append_toArray,List.nil_append,List.cons_append]
  gi_wp2_with fail
  refine ⟨trivial,(callsIn_wide.2 (srecords_any _ _ _ _)).mono ?_⟩
  rintro e w' ⟨rfl,rfl⟩
  gi_wp2_with fail
  have bO:Boxed ((w.alloc (.cells #[.slice none 0 0] 81)).alloc (.cells #[.int .i64 0] 3)) w.heap.size 81 (.slice none 0 0):=(Boxed.new w 81 (.slice none 0 0)).alloc _
  have bN:Boxed ((w.alloc (.cells #[.slice none 0 0] 81)).alloc (.cells #[.int .i64 0] 3)) (w.heap.size + 1) 3 (.int .i64 0):=by
    have:=Boxed.new (w.alloc (.cells #[.slice none 0 0] 81)) 3 (.int .i64 0)
    rwa [World.size_alloc] at this
  have bX:Boxed (((w.alloc (.cells #[.slice none 0 0] 81)).alloc (.cells #[.int .i64 0] 3)).alloc (.cells #[.slice A 0 c] 26)) (w.heap.size + 2) 26 (.slice A 0 c):=by
    have:=Boxed.new ((w.alloc (.cells #[.slice none 0 0] 81)).alloc (.cells #[.int .i64 0] 3)) 26 (.slice A 0 c)
    rwa [World.size_alloc,World.size_alloc] at this
  have hB0:Below w.heap.size w (((w.alloc (.cells #[.slice none 0 0] 81)).alloc (.cells #[.int .i64 0] 3)).alloc (.cells #[.slice A 0 c] 26)):=(((Below.refl _ w).alloc (Nat.le_refl _) _).alloc (by simp only [World.size_alloc]; omega) _).alloc (by simp only [World.size_alloc]; omega) _
  have bO1:=bO.alloc (.cells #[.slice A 0 c] 26)
  have bN1:=bN.alloc (.cells #[.slice A 0 c] 26)
  clear bO bN
  refine wpIn_rangeFunc_ownG rfl (by decide) (gf:=119) (lb:=#[.pointer (some ⟨w.heap.size + 2,0,none⟩)]) rfl trivial (enters_of Tryz.func119 (by kernel_rfl) rfl)
    (recs0_stops 8 (w.heap.size + 2) w.heap.size A c hA _ (by simp) bX.cell) belowK_t (belowK_b (by simp only [World.size_alloc]; omega)) (Below.refl _ _) (fun x=>x.elim)
    (fun _ W=>(Boxed W w.heap.size 81 (.slice none 0 0) ∧ Boxed W (w.heap.size + 1) 3 (.int .i64 0)) ∧ Below w.heap.size w W)
    (fun _ _ _=>False)
    (OwnFrom.and (OwnFrom.and (Own.from (boxed_own w.heap.size 81 (fun _=>.slice none 0 0)) _) (Own.from (boxed_own (w.heap.size + 1) 3 (fun _=>.int .i64 0)) _)) (ownFrom_below (Nat.le_refl _) (by simp only [World.size_alloc]; omega)))
    (fun _ _ _ _ _ hs _ _=>hs)
    ⟨⟨bO1,bN1⟩,hB0⟩
    (fun x=>x.elim) (fun _ x=>x.elim) (fun _ _ x=>x.elim) ?done ?stop
  case done =>
    rintro D ys W hD rfl ⟨⟨hO,hN⟩,hB⟩ hK
    have hc:=hO.cell
    have hn:=hN.cell
    gi_wp2_with fail
    refine wpIn_wide.2 ?_
    go_region
    all_goals gi_wp2
    have hK2:W.drew.heap[D]? = some (.deferred (some [])):=hK
    refine ⟨by simp,.inl ⟨_,_,rfl,run_takeDeferred hK2,?_⟩⟩
    refine ⟨_,results_tmp2 rfl _ _ _,rfl,hB.drew.trans (belowK_b (w:=w) (Nat.le_refl _) W.drew D _ _ (by simp only [World.size_alloc] at hD; omega) hK2 rfl rfl)⟩
  case stop =>
    rintro D c pre W _ _ h _
    exact h.elim
end Go.Proofs.YtkempjcphpnocaaGreatDoor
namespace Go.Proofs.YtkempjcphpnocaaGreatDoor
open Go Go.RowKit Go.Maps
section
variable (B l:Nat) (M:DM) (d:D.Dsk) (count m bx:Nat) (w:World)
set_option maxHeartbeats 1000000 in
theorem op1_any (h:LgAt B l M d count w) (hf:D.Fit m d) (hm:m ≤ 134217728) (hb:Blk w bx #[.pointer (some ⟨M.d,0,none⟩)] 30) :
    Calls Tryz.prog 59 #[.pointer (some ⟨bx,0,none⟩)] w (RetLog B l M d w ((d.create S.logN).1,count,(d.create S.logN).2)):=by
  have HC:=Lib.hid (create_any B M d S.logN w h.disk (hf.sml (by omega)) hf.ok log_small.1)
  have HD:=Lib.hid h
  have z0:=hb.cells1
  clear h hb
  go_enter Tryz.func59,Tryz.ntmps59
  go_wp2_with fail
  refine HC.out.mono ?_
  rintro e w4 hr4
  have h4:=RetStep.log HD.out hr4
  obtain ⟨rfl,h5⟩:=h4
  clear hr4 HC z0
  go_wp2
  go_ret
  exact ⟨rfl,h5⟩
set_option maxHeartbeats 1000000 in
theorem op2_any (h:LgAt B l M d count w) (hf:D.Fit m d) (hm:m ≤ 134217728) (hb:Blk w bx #[.pointer (some ⟨M.d,0,none⟩)] 30) :
    Calls Tryz.prog 61 #[.pointer (some ⟨bx,0,none⟩)] w (RetLog B l M d w ((d.sync S.logN).1,count,(d.sync S.logN).2)):=by
  have HC:=Lib.hid (syncS_any B M d S.logN w h.disk (hf.sml (by omega)) hf.ok log_small.1)
  have HD:=Lib.hid h
  have z0:=hb.cells1
  clear h hb
  go_enter Tryz.func61,Tryz.ntmps61
  go_wp2_with fail
  refine HC.out.mono ?_
  rintro e w4 hr4
  have h4:=RetStep.log HD.out hr4
  obtain ⟨rfl,h5⟩:=h4
  clear hr4 HC z0
  go_wp2
  go_ret
  exact ⟨rfl,h5⟩
end
theorem Row.capNone {w:World} {base size n c:Nat} {e:TypeId} {A:Option Addr} {xs:List Value} (h:Row w base e size A n c xs):A = none → c = 0:=by
  intro hA
  rcases h with ⟨_,hr⟩ | ⟨_,h,_⟩
  · rcases hr with ⟨hv,_⟩ | ⟨g,cap,cur,hv,_⟩
    · injection hv
    · injection hv with h1 h2 h3
      rw [hA] at h1
      cases h1
  · exact h
def RetOpen (B:Nat) (M:DM) (d:D.Dsk) (w:World) (d3:D.Dsk) (e:Ending) (w':World):Prop :=
  ∃ l M',e = .returned (.tuple #[.pointer (some ⟨l,0,none⟩),.slice none 0 0,.int .i64 0]) ∧ LgAt B l M' d3 0 w' ∧ Went (M.foot d) w (lgFoot l M' d3) w' ∧ M'.d = M.d
set_option maxRecDepth 100000 in
set_option maxHeartbeats 4000000 in
theorem logOpen0_any (B:Nat) (M:DM) (d d3:D.Dsk) (m:Nat) (w:World) (h:DkAt B M d w) (hf:D.Fit m d) (hm:m ≤ 134217000) (hnew:S.has d.list S.newN = false) (hrd:d.read S.logN = ([],90)) (hst:S.steps d S.firsts = (d3,3,0)) :
    Calls Tryz.prog 30 #[.pointer (some ⟨M.d,0,none⟩)] w (RetOpen B M d w d3):=by
  have HD:=Lib.hid h
  have HF:=Lib.hid hf
  have hln:d.now.length ≤ 1073741824:=Nat.le_trans hf.now (by omega)
  have HLI:=Lib.hid (fun (u:World) (hu:Below w.heap.size w u)=>dlist_any B M d u (h.below hu) hf.ok hln)
  have HRE:=Lib.hid (fun (u:World) (hu:Below w.heap.size w u)=>read_any B M d S.logN u (h.below hu) (hf.sml (by omega)) hf.ok log_small.1)
  rw [hrd] at HRE
  have HNW:=Lib.hid hnew
  have HST:=Lib.hid hst
  have hll:d.list.length ≤ 1099511627776:=by
    have:d.list.length ≤ d.now.length:=by unfold D.Dsk.list; split <;> simp
    omega
  clear h hf hnew hrd hst
  go_enter Tryz.func30,Tryz.ntmps30
  go_upto_region 2 with fail
  obtain ⟨W1,hW1⟩:∃ W1,(w.alloc (.cells #[.pointer (some ⟨M.d,0,none⟩)] 30)).alloc (.cells #[.pointer (some ⟨M.d,0,none⟩),.int .i64 0] 118) = W1:=⟨_,rfl⟩
  have hs1:(w.alloc (.cells #[.pointer (some ⟨M.d,0,none⟩)] 30)).heap.size = w.heap.size + 1:=World.size_alloc ..
  have HZ1:Hid (W1.heap.size = w.heap.size + 2):=Lib.hid (by rw [← hW1,World.size_alloc,hs1])
  have hb0:Below w.heap.size w (w.alloc (.cells #[.pointer (some ⟨M.d,0,none⟩)] 30)):=(Below.refl _ _).alloc (Nat.le_refl _) _
  have HB1:Hid (Below w.heap.size w W1):=Lib.hid (by rw [← hW1]; exact hb0.alloc (by rw [hs1]; omega) _)
  have HBX:Hid (Blk W1 w.heap.size #[.pointer (some ⟨M.d,0,none⟩)] 30):=Lib.hid (by rw [← hW1]; exact (Blk.new w _ _).alloc _)
  have HBL:Hid (Blk W1 (w.heap.size + 1) #[.pointer (some ⟨M.d,0,none⟩),.int .i64 0] 118):=Lib.hid (by
    have:=Blk.new (w.alloc (.cells #[.pointer (some ⟨M.d,0,none⟩)] 30)) #[.pointer (some ⟨M.d,0,none⟩),.int .i64 0] 118
    rw [← hW1]
    rwa [hs1] at this)
  rw [hW1]
  clear hb0
  have z0:=HBX.out.cells1
  go_wp2_with fail
  refine (HLI.out _ HB1.out).mono ?_
  rintro e w2 ⟨A,c,rfl,hr2,hb2⟩
  have HB2:=Lib.hid (below_then HB1.out.size HB1.out hb2)
  have HCT:=Lib.hid (hasName_any A _ c d.list S.newN w2 rfl hll hr2.rd)
  rw [HNW.out] at HCT
  clear HLI hr2 HNW
  go_wp2_with fail
  refine HCT.out.mono ?_
  rintro e w2' ⟨rfl,rfl⟩
  have HBX2:=Lib.hid (HBX.out.below hb2)
  have HBL2:=Lib.hid (HBL.out.below hb2)
  have HZ2:Hid (w.heap.size + 2 ≤ w2.heap.size):=Lib.hid (by have:=hb2.size; have:=HZ1.out; omega)
  have z0:=HBX2.out.cells1
  clear hb2 HB1 HBX HBL HCT HZ1 hW1
  go_wp2_with fail
  refine (HRE.out _ HB2.out).mono ?_
  rintro e w3 ⟨A3,c3,rfl,hr3,hb3⟩
  have HB3:=Lib.hid (below_then HB2.out.size HB2.out hb3)
  have HBX3:=Lib.hid (HBX2.out.below hb3)
  have HBL3:=Lib.hid (HBL2.out.below hb3)
  have HZ3:Hid (w.heap.size + 2 ≤ w3.heap.size):=Lib.hid (by have:=hb3.size; have:=HZ2.out; omega)
  have HRP:=Lib.hid (fun u=>replay0_any A3 c3 hr3.capNone u)
  clear hb3 hr3 HRE HB2 HBX2 HBL2 HZ2 z0
  have z0:=HBX3.out.cells1
  have hbe:Below w3.heap.size w3 (w3.alloc (.cells #[.func (.func 59) #[] #[.pointer (some ⟨w.heap.size,0,none⟩)],.func (.func 61) #[] #[.pointer (some ⟨w.heap.size,0,none⟩)],.func (.func 63) #[.pointer (some ⟨M.d,0,none⟩)] #[]] 123)):=(Below.refl _ _).alloc (Nat.le_refl _) _
  have HB4:=Lib.hid (below_then HB3.out.size HB3.out hbe)
  have HL4:=Lib.hid (show LgAt B (w.heap.size + 1) M d 0 (w3.alloc (.cells #[.func (.func 59) #[] #[.pointer (some ⟨w.heap.size,0,none⟩)],.func (.func 61) #[] #[.pointer (some ⟨w.heap.size,0,none⟩)],.func (.func 63) #[.pointer (some ⟨M.d,0,none⟩)] #[]] 123)) from ⟨HD.out.below HB4.out,HBL3.out.below hbe,by have:=HD.out.base; omega⟩)
  have HW4:Hid (Went (M.foot d) w (lgFoot (w.heap.size + 1) M d) (w3.alloc (.cells #[.func (.func 59) #[] #[.pointer (some ⟨w.heap.size,0,none⟩)],.func (.func 61) #[] #[.pointer (some ⟨w.heap.size,0,none⟩)],.func (.func 63) #[.pointer (some ⟨M.d,0,none⟩)] #[]] 123))):=Lib.hid ((Went.below HB4.out (M.foot d)).wide (fun _ h=>h) (fun k hk=>by
    rcases hk with hk | hk
    · exact .inl hk
    · exact .inr (.inr (by omega))))
  have HBX4:=Lib.hid (HBX3.out.below hbe)
  have hx4:Rd (w3.alloc (.cells #[.func (.func 59) #[] #[.pointer (some ⟨w.heap.size,0,none⟩)],.func (.func 61) #[] #[.pointer (some ⟨w.heap.size,0,none⟩)],.func (.func 63) #[.pointer (some ⟨M.d,0,none⟩)] #[]] 123)) (some ⟨w3.heap.size,0,none⟩) 3 1 (#[.func (.func 59) #[] #[.pointer (some ⟨w.heap.size,0,none⟩)],.func (.func 61) #[] #[.pointer (some ⟨w.heap.size,0,none⟩)],.func (.func 63) #[.pointer (some ⟨M.d,0,none⟩)] #[]]:Array Value).toList:=Rd.newRow w3 123 #[.func (.func 59) #[] #[.pointer (some ⟨w.heap.size,0,none⟩)],.func (.func 61) #[] #[.pointer (some ⟨w.heap.size,0,none⟩)],.func (.func 63) #[.pointer (some ⟨M.d,0,none⟩)] #[]] 3 1 rfl
  have hofx:∀ q,w.heap.size ≤ q → q ≠ w.heap.size + 1 → ¬ lgFoot (w.heap.size + 1) M d q:=fun q hq hne hf=>by
    rcases hf with hf | hf
    · have:=HD.out.lt hf; omega
    · exact hne hf
  have HOF:=Lib.hid (hofx w.heap.size (Nat.le_refl _) (by omega))
  have hA4:∀ a,(some ⟨w3.heap.size,0,none⟩:Option Addr) = some a → ¬ lgFoot (w.heap.size + 1) M d a.block:=fun a ha=>(by cases ha; exact hofx w3.heap.size (by have:=HZ3.out; omega) (by have:=HZ3.out; omega))
  have HFI:=Lib.hid (first3_any B (w.heap.size + 1) M d 0 m w.heap.size (some ⟨w3.heap.size,0,none⟩) 3 (fun d=>d.create S.logN) (fun d=>d.sync S.logN) (fun d=>d.syncNames) (w3.alloc (.cells #[.func (.func 59) #[] #[.pointer (some ⟨w.heap.size,0,none⟩)],.func (.func 61) #[] #[.pointer (some ⟨w.heap.size,0,none⟩)],.func (.func 63) #[.pointer (some ⟨M.d,0,none⟩)] #[]] 123)) HL4.out HF.out
    (fun _ _ h=>h.create _) (fun _ _ h=>h.sync _) (fun _ _ h=>h.syncNames) hx4 hA4
    (fun M1 d1 u hl hw hm hf=>op1_any B (w.heap.size + 1) M1 d1 0 (m + 0) w.heap.size u hl hf (by omega) (by rw [hm]; exact hw.blk HBX4.out HOF.out))
    (fun M1 d1 u hl hw hm hf=>op2_any B (w.heap.size + 1) M1 d1 0 (m + 1) w.heap.size u hl hf (by omega) (by rw [hm]; exact hw.blk HBX4.out HOF.out))
    (fun M1 d1 u hl hw hm hf=>by rw [← hm]; exact (syncNames_any B M1 d1 u hl.disk (hf.sml (by omega))).mono fun _ _ h=>RetStep.log hl h))
  have HST2:Hid (S.steps d [fun d=>d.create S.logN,fun d=>d.sync S.logN,fun d=>d.syncNames] = (d3,3,0)):=HST
  rw [HST2.out] at HFI
  clear hbe hx4 hofx hA4 HOF HBX4 HL4 HBL3 HST HST2
  go_wp2_with fail
  refine HFI.out.mono ?_
  rintro e w5 ⟨rfl,M5,hl5,hw5,hm5⟩
  have HL5:=Lib.hid hl5
  have HW5:=Lib.hid (HW4.out.trans hw5)
  have HM5:=Lib.hid hm5
  clear hl5 hw5 hm5 HFI HW4 z0
  go_wp2_with fail
  refine (HRP.out _).mono ?_
  rintro e w6 ⟨rfl,hb6⟩
  have hl6:=HL5.out.below hb6
  obtain ⟨hl7,hw7⟩:=hl6.counted 0
  have HL7:=Lib.hid hl7
  have HW7:=Lib.hid ((HW5.out.trans (Went.below hb6 _)).trans hw7)
  obtain ⟨y0,y1⟩:=hl6.cells
  have f1:=hl6.blk.free 1
  clear hb6 hl6 hl7 hw7 HRP HW5 y0
  go_wp2
  (try simp only [Exit.inBlock,Exit.then])
  refine bodyPost_ret (results_tmp3 rfl _ _ _) rfl ?_
  exact ⟨w.heap.size + 1,M5,rfl,HL7.out,HW7.out,HM5.out⟩
end Go.Proofs.YtkempjcphpnocaaGreatDoor
