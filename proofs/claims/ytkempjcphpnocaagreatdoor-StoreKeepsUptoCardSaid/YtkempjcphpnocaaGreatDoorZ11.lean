/- A map from names to files in memory, told by a rising list of names and numbers. No condition: plain lemmas over the kit's words on maps. The walks of rec's word and Encode. Conditions: an Id of at most 2^31 bytes. How far a store's steps take its disk. No program here. A store over a new disk where nothing fails. No program here. The disk that a new log leaves, and its store. No program here. -/
import Derived.Test.YtkempjcphpnocaaGreatDoorZ13
import Derived.Test.YtkempjcphpnocaaGreatDoorLib
import Derived.Maps.OwnSet
import Derived.Maps.OwnOps
import Derived.Maps.Range
import Derived.Maps.RangeWalk
import Derived.Sort.KeysCollected
import Derived.Test.YtkempjcphpnocaaGreatDoorZ00
import Derived.Test.YtkempjcphpnocaaGreatDoorObjEnc
import Derived.Test.YtkempjcphpnocaaGreatDoorZ14
import Derived.Test.YtkempjcphpnocaaGreatDoorStoreR
namespace Go.Proofs.YtkempjcphpnocaaGreatDoor
open Go Go.RowKit Go.Maps
namespace D
theorem before_lt:∀ a b:List UInt8,bytesBefore a b = decide (a < b)
  | [],[]=>by simp [bytesBefore]
  | [],_ :: _=>by simp [bytesBefore]
  | _ :: _,[]=>by simp [bytesBefore]
  | a :: r,b :: s=>by
    unfold bytesBefore
    rw [before_lt r s,Bool.eq_iff_iff]
    simp only [Bool.or_eq_true,decide_eq_true_eq,Bool.and_eq_true,beq_iff_eq,List.cons_lt_cons_iff]
theorem ltB_before (a b:ByteArray):bytesBefore (L a) (L b) = ltB a b:=before_lt _ _
def ptrR:Value → Option (DataW Unit × List MemPlace)
  | .pointer (some ⟨b,0,none⟩)=>some (.lit (.int .i64 b),[])
  | .pointer none=>some (.nil,[])
  | _=>none
theorem ptrR_inv {v:Value} {b:Nat} {ps:List MemPlace} (h:ptrR v = some (.lit (.int .i64 b),ps)):v = .pointer (some ⟨b,0,none⟩):=by
  unfold ptrR at h
  split at h
  · simp only [Option.some.injEq,Prod.mk.injEq,DataW.lit.injEq,Lit.int.injEq,true_and] at h
    have:(_:Nat) = b:=Int.ofNat.inj h.1
    rw [this]
  · cases h
  · cases h
theorem ptrR_nil {v:Value} {ps:List MemPlace} (h:ptrR v = some (.nil,ps)):v = .pointer none:=by
  unfold ptrR at h
  split at h
  · cases h
  · rfl
  · cases h
def key (nm:ByteArray):Lit:=.string (L nm)
def ent (fa:Nat → Nat) (p:ByteArray × Nat):Lit × DataW Unit:=(key p.1,.lit (.int .i64 (fa p.2)))
def datum (fa:Nat → Nat) (l:NM):DataW Unit:=.map (l.map (ent fa))
theorem same_key (a b:ByteArray):(key a).sameKey (key b) = decide (a = b):=by
  unfold key Lit.sameKey
  rw [Bool.eq_iff_iff]
  simp only [beq_iff_eq,decide_eq_true_eq]
  exact ⟨L_inj,fun h=>by rw [h]⟩
theorem datum_del (fa:Nat → Nat) (l:NM) (nm:ByteArray):(datum fa l).del (key nm) = datum fa (del l nm):=by
  unfold datum DataW.del D.del
  dsimp only
  congr 1
  rw [List.filter_map]
  congr 1
  apply List.filter_congr
  intro p _
  show (!((ent fa p).1.sameKey (key nm))) = _
  unfold ent
  dsimp only
  rw [same_key]
  simp
theorem insert_map (fa:Nat → Nat) (nm:ByteArray) (no:Nat):∀ l:NM,DataW.insert (ent fa (nm,no)) (l.map (ent fa)) = (ins l nm no).map (ent fa)
  | []=>rfl
  | p :: r=>by
    have e:(ent fa (nm,no)).1.before (ent fa p).1 = ltB nm p.1:=ltB_before _ _
    rw [List.map_cons]
    unfold DataW.insert ins
    rw [e]
    split
    · rfl
    · rw [List.map_cons,insert_map fa nm no r]
theorem datum_put (fa:Nat → Nat) (l:NM) (nm:ByteArray) (no:Nat):(datum fa l).put (key nm) (.lit (.int .i64 (fa no))) = datum fa (put l nm no):=by
  have h:=datum_del fa l nm
  unfold datum DataW.del at h
  dsimp only at h
  have h2:(l.map (ent fa)).filter (fun p=>!p.1.sameKey (key nm)) = (del l nm).map (ent fa):=by injection h
  unfold datum DataW.put
  dsimp only
  rw [h2]
  exact congrArg DataW.map (insert_map fa nm no (del l nm))
theorem datum_at (fa:Nat → Nat) (l:NM) (nm:ByteArray) (z:DataW Unit):(datum fa l).atKey (key nm) z = match find l nm with | some no=>.lit (.int .i64 (fa no)) | none=>z:=by
  unfold datum DataW.atKey find
  dsimp only
  induction l with
  | nil=>rfl
  | cons p r ih =>
    rw [List.map_cons,List.find?_cons,List.find?_cons]
    have e:(ent fa p).1.sameKey (key nm) = decide (p.1 = nm):=same_key _ _
    rw [e]
    cases h:decide (p.1 = nm) with
    | true=>rfl
    | false=>exact ih
theorem keys_datum (fa:Nat → Nat) (l:NM):Go.strKeys (datum fa l) = l.map fun p=>L p.1:=by
  unfold datum Go.strKeys
  dsimp only
  rw [List.map_map]
  rfl
theorem keys_sorted {fa:Nat → Nat} {l:NM} (h:Up l) {ss:List (List UInt8)} (hp:ss.Perm (Go.strKeys (datum fa l))):ss.mergeSort (fun x y=>decide (x ≤ y)) = l.map fun p=>L p.1:=by
  rw [keys_datum] at hp
  have h1:ss.mergeSort (fun x y=>decide (x ≤ y)) = (l.map fun p=>L p.1).mergeSort (fun x y=>decide (x ≤ y)):=Go.mergeSort_of_perm hp
  rw [h1]
  apply List.mergeSort_of_pairwise
  rw [List.pairwise_map]
  refine h.imp fun {a b} hab=>?_
  exact decide_eq_true (List.le_of_lt (of_decide_eq_true hab))
end D
end Go.Proofs.YtkempjcphpnocaaGreatDoor
namespace Go.Proofs.YtkempjcphpnocaaGreatDoor
open Go.RowKit
theorem word_any (v:Int) (w:World):Calls Tryz.prog 98 #[.int .i64 v] w (RetB w (R.word v)):=by
  by_cases h0:0 ≤ v
  · by_cases h1:v ≤ 4294967295
    · rw [show R.word v = true from decide_eq_true ⟨h0,h1⟩]
      go_enter Tryz.func98,Tryz.ntmps98
      go_wp2
      go_ret
      exact ⟨rfl,Below.refl _ _⟩
    · rw [show R.word v = false from decide_eq_false fun h=>h1 h.2]
      go_enter Tryz.func98,Tryz.ntmps98
      go_wp2
      go_ret
      exact ⟨rfl,Below.refl _ _⟩
  · rw [show R.word v = false from decide_eq_false fun h=>h0 h.1]
    go_enter Tryz.func98,Tryz.ntmps98
    go_wp2
    go_ret
    exact ⟨rfl,Below.refl _ _⟩
namespace R
theorem code_op {r:Rc} (h:¬ (r.op = 1 ∨ r.op = 2)):code r = 100:=by
  unfold code
  rw [if_neg]
  simp at h ⊢
  intro h1 h2
  exact absurd (h1.elim h.1 h.2) id
theorem code_seq {r:Rc} (h:word r.seq = false):code r = 100:=by
  unfold code
  rw [if_neg (by rw [h]; simp)]
theorem code_no {r:Rc} (h:word r.no = false):code r = 100:=by
  unfold code
  rw [if_neg (by rw [h]; simp)]
theorem code_id {r:Rc} (h1:r.op = 1 ∨ r.op = 2) (h2:word r.seq = true) (h3:word r.no = true):code r = if r.id.size ≤ 4096 then 0 else 101:=by
  unfold code
  rw [if_pos (by rw [h2,h3]; rcases h1 with h | h <;> simp [h])]
theorem enc_bad {r:Rc} (h:code r ≠ 0):enc r = []:=if_neg h
theorem enc_good {r:Rc} (h:code r = 0):enc r = body r ++ beN (sumN (body r)) 4:=if_pos h
theorem enc_len (r:Rc) (h:code r = 0):(enc r).length = r.id.size + 15:=by
  rw [enc_good h]
  unfold body
  simp only [List.length_append,List.length_cons,beN_len]
  have:(L r.id).length = r.id.size:=(L_size r.id).symm
  omega
end R
theorem rowB (u:World) (x:UInt8) (B:Nat) (hB:B ≤ u.heap.size):Row (u.alloc (.cells #[.int .u8 x.toNat] 5)) B 5 1 (some ⟨u.heap.size,0,none⟩) 1 1 (bcells [x]) :=
  .inl ⟨rfl,.inr ⟨u.heap.size,1,_,rfl,hB,heap_alloc_new u _,Nat.le_refl _,by decide,rfl,rfl⟩⟩
set_option maxRecDepth 100000 in
set_option maxHeartbeats 4000000 in
theorem rencode_any (r:R.Rc) (w:World) (hid:r.id.size ≤ 2147483648) :
    Calls Tryz.prog 65 #[.agg #[.int .i64 r.seq,.int .i64 r.op,.int .i64 r.no,.string r.id]] w (RetBE w (R.enc r) (R.code r)):=by
  have HK:=Lib.hid (Blk.new w #[.int .i64 r.seq,.int .i64 r.op,.int .i64 r.no,.string r.id] 89)
  have HB:=Lib.hid ((Below.refl w.heap.size w).alloc (Nat.le_refl _) (.cells #[.int .i64 r.seq,.int .i64 r.op,.int .i64 r.no,.string r.id] 89))
  have HZ:Hid ((w.alloc (.cells #[.int .i64 r.seq,.int .i64 r.op,.int .i64 r.no,.string r.id] 89)).heap.size = w.heap.size + 1):=Lib.hid (World.size_alloc ..)
  obtain ⟨E,hE⟩:∃ E,R.enc r = E:=⟨_,rfl⟩
  obtain ⟨C,hC⟩:∃ C,R.code r = C:=⟨_,rfl⟩
  have c1:=@R.code_op r
  have c2:=@R.code_seq r
  have c3:=@R.code_no r
  have c4:=@R.code_id r
  have e1:=@R.enc_bad r
  have e2:=@R.enc_good r
  have hbody:R.body r = UInt8.ofNat (192 + r.op.toNat) :: (beN r.id.size 2 ++ (beN r.seq.toNat 4 ++ (beN r.no.toNat 4 ++ L r.id))):=rfl
  have hWS:R.word r.seq = true → 0 ≤ r.seq ∧ r.seq ≤ 4294967295:=fun h=>of_decide_eq_true h
  have hWN:R.word r.no = true → 0 ≤ r.no ∧ r.no ≤ 4294967295:=fun h=>of_decide_eq_true h
  rw [hE] at e1 e2 ⊢
  rw [hC] at c1 c2 c3 c4 e1 e2 ⊢
  generalize R.body r = bd at *
  obtain ⟨seq,op,no,id⟩:=r
  dsimp only at *
  have HW:=Lib.hid (fun (v:Int) (u:World)=>word_any v u)
  have F1:=Lib.hid c1
  have F2:=Lib.hid c2
  have F3:=Lib.hid c3
  have F4:=Lib.hid c4
  have F5:=Lib.hid e1
  have F6:=Lib.hid e2
  have F7:=Lib.hid hbody
  have F8:=Lib.hid hWS
  have F9:=Lib.hid hWN
  clear c1 c2 c3 c4 e1 e2 hbody hWS hWN hE hC
  go_enter Tryz.func65,Tryz.ntmps65
  go_upto_region 1 with fail
  generalize w.alloc (.cells #[.int .i64 seq,.int .i64 op,.int .i64 no,.string id] 89) = w0 at *
  obtain ⟨z0,z1,z2,z3⟩:=HK.out.cells4
  by_cases hop:op = 1 ∨ op = 2
  rotate_left
  · have o1:(op != 1) = true:=bne_iff_ne.2 (fun h=>hop (.inl h))
    have o2:(op != 2) = true:=bne_iff_ne.2 (fun h=>hop (.inr h))
    have hc:=F1.out hop
    have he:=F5.out (by rw [hc]; decide)
    go_wp2
    go_ret2
    exact RetBE.none_ HB.out he hc
  have HP:=Lib.hid (fun (base:Nat) (A:Option Addr) (c n v k:Nat) (bs:List UInt8) (u:World) (hl:bs.length = n) (hn:n ≤ 1099511627776) (hk:k ≤ 8) (hv:v < 9223372036854775808) (hr:CRow u base A n c bs) (hb:base ≤ u.heap.size)=>(by
    subst hl
    exact put_be base A c v k bs u hn hk hv hr hb:Calls Tryz.prog 78 #[.slice A n c,.int .i64 v,.int .i64 k] u (fun e w'=>∃ A' c',e = .returned (.slice A' (n + k) c') ∧ CRow w' base A' (n + k) c' (bs ++ beN v k) ∧ App u w' A c A' c')))
  rcases hop with rfl | rfl
  · go_wp2_with fail
    clear z0 z1 z2 z3
    refine (HW.out _ _).mono ?_
    rintro e w1 ⟨rfl,hb1⟩
    have HB1:=Lib.hid (below_then HB.out.size HB.out hb1)
    have HK1:=Lib.hid (HK.out.below hb1)
    have HZ1:Hid (w.heap.size + 1 ≤ w1.heap.size):=Lib.hid (by have:=hb1.size; have:=HZ.out; omega)
    clear hb1 HB HK
    obtain ⟨z0,z1,z2,z3⟩:=HK1.out.cells4
    cases hs:R.word seq
    · have hc:=F2.out hs
      have he:=F5.out (by rw [hc]; decide)
      go_wp2
      go_ret2
      exact RetBE.none_ HB1.out he hc
    have hsq:=F8.out hs
    go_wp2_with fail
    clear z0 z1 z2 z3
    refine (HW.out _ _).mono ?_
    rintro e w2 ⟨rfl,hb2⟩
    have HB2:=Lib.hid (below_then HB1.out.size HB1.out hb2)
    have HK2:=Lib.hid (HK1.out.below hb2)
    have HZ2:Hid (w.heap.size + 1 ≤ w2.heap.size):=Lib.hid (by have:=hb2.size; have:=HZ1.out; omega)
    clear hb2 HB1 HK1
    obtain ⟨z0,z1,z2,z3⟩:=HK2.out.cells4
    cases hn:R.word no
    · have hc:=F3.out hn
      have he:=F5.out (by rw [hc]; decide)
      go_wp2
      go_ret2
      exact RetBE.none_ HB2.out he hc
    have hnq:=F9.out hn
    have hcd:=F4.out (by decide) hs hn
    clear hs hn F1 F2 F3 F4 F8 F9 HW HZ1
    by_cases hi:id.size ≤ 4096
    rotate_left
    · rw [if_neg hi] at hcd
      have he:=F5.out (by rw [hcd]; decide)
      have hi2:¬ (id.size:Int) ≤ 4096:=by omega
      go_wp2
      go_ret2
      exact RetBE.none_ HB2.out he hcd
    rw [if_pos hi] at hcd
    have hE:=F6.out hcd
    have hi2:(id.size:Int) ≤ 4096:=by omega
    obtain ⟨sq,rfl⟩:∃ a:Nat,seq = a:=⟨seq.toNat,by omega⟩
    obtain ⟨nn,rfl⟩:∃ a:Nat,no = a:=⟨no.toNat,by omega⟩
    have HEN:=Lib.hid hE
    have HC0:=Lib.hid hcd
    have F7':=F7.out
    simp only [Int.toNat_natCast] at F7'
    have HF7:=Lib.hid F7'
    clear hE hcd F5 F6 F7 F7'
    have hsq2:sq < 9223372036854775808:=by omega
    have hnn2:nn < 9223372036854775808:=by omega
    clear hsq hnq
    have HR3:Hid (CRow (w2.alloc (.cells #[.int .u8 193] 5)) w2.heap.size (some ⟨w2.heap.size,0,none⟩) 1 1 [UInt8.ofNat 193]):=Lib.hid ((rowB w2 (UInt8.ofNat 193) w2.heap.size (Nat.le_refl _)).crow)
    have hz3:(w2.alloc (.cells #[.int .u8 193] 5)).heap.size = w2.heap.size + 1:=World.size_alloc ..
    have HB3:=Lib.hid (HB2.out.alloc (Nat.le_trans (Nat.le_succ _) HZ2.out) (.cells #[.int .u8 193] 5))
    have HK3:=Lib.hid (HK2.out.alloc (.cells #[.int .u8 193] 5))
    obtain ⟨B0,hB0⟩:∃ B0,B0 = w2.heap.size:=⟨_,rfl⟩
    have hk0:w.heap.size < B0:=by have:=HZ2.out; omega
    clear HB2 HK2
    obtain ⟨u0,u1,u2,u3⟩:=HK3.out.cells4
    go_wp2_with fail
    clear z0 z1 z2 z3 u0 u1 u2 u3
    simp only [← hB0] at *
    have HZ3:Hid (B0 ≤ (w2.alloc (.cells #[.int .u8 193] 5)).heap.size):=Lib.hid (by rw [hz3]; omega)
    refine (HP.out B0 (some ⟨B0,0,none⟩) 1 1 id.size 2 [UInt8.ofNat 193] _ rfl (by decide) (by decide) (by omega) HR3.out HZ3.out).mono ?_
    rintro e w4 ⟨A4,c4,rfl,hr4,ha4⟩
    have hb4:=ha4.belowC HR3.out HZ3.out
    have HK4:=Lib.hid (HK3.out.under hb4 hk0)
    have HB4:=Lib.hid (HB3.out.trans (hb4.mono (Nat.le_of_lt hk0)))
    have HZ4:Hid (B0 ≤ w4.heap.size):=Lib.hid (Nat.le_trans HZ3.out hb4.size)
    have HR4:=Lib.hid hr4
    clear hr4 ha4 hb4 HK3 HB3 HZ3 HR3
    obtain ⟨z0,z1,z2,z3⟩:=HK4.out.cells4
    go_wp2_with fail
    clear z0 z1 z2 z3
    refine (HP.out B0 A4 c4 3 sq 4 _ _ (by simp [beN_len]) (by decide) (by decide) hsq2 HR4.out HZ4.out).mono ?_
    rintro e w5 ⟨A5,c5,rfl,hr5,ha5⟩
    have hb5:=ha5.belowC HR4.out HZ4.out
    have HK5:=Lib.hid (HK4.out.under hb5 hk0)
    have HB5:=Lib.hid (HB4.out.trans (hb5.mono (Nat.le_of_lt hk0)))
    have HZ5:Hid (B0 ≤ w5.heap.size):=Lib.hid (Nat.le_trans HZ4.out hb5.size)
    have HR5:=Lib.hid hr5
    clear hr5 ha5 hb5 HK4 HB4 HZ4 HR4
    obtain ⟨z0,z1,z2,z3⟩:=HK5.out.cells4
    go_wp2_with fail
    clear z0 z1 z2 z3
    refine (HP.out B0 A5 c5 7 nn 4 _ _ (by simp [beN_len]) (by decide) (by decide) hnn2 HR5.out HZ5.out).mono ?_
    rintro e w6 ⟨A6,c6,rfl,hr6,ha6⟩
    have hb6:=ha6.belowC HR5.out HZ5.out
    have HK6:=Lib.hid (HK5.out.under hb6 hk0)
    have HB6:=Lib.hid (HB5.out.trans (hb6.mono (Nat.le_of_lt hk0)))
    have HZ6:Hid (B0 ≤ w6.heap.size):=Lib.hid (Nat.le_trans HZ5.out hb6.size)
    obtain ⟨g,hg,hc0⟩:∃ g,A6 = some ⟨g,0,none⟩ ∧ c6 ≠ 0:=by
      have h1:=hr6.2.1
      rcases hr6.2.2 with h | ⟨g,h,_⟩
      · exact absurd h (by omega)
      · exact ⟨g,h,by omega⟩
    subst hg
    have HR6:=Lib.hid hr6
    clear hr6 ha6 hb6 HK5 HB5 HZ5 HR5
    obtain ⟨z0,z1,z2,z3⟩:=HK6.out.cells4
    go_wp2_with (at_builtin; refine appStr _ rfl _ _ rfl B0 g 11 c6 _ rfl hc0 HR6.out id rfl (by omega) HZ6.out ?_; intro A7 c7 w7 hr7 ha7; have hb7:=ha7.belowC HR6.out HZ6.out; have HB7:=Lib.hid (HB6.out.trans (hb7.mono (Nat.le_of_lt hk0))); have HZ7:Hid (B0 ≤ w7.heap.size):=Lib.hid (Nat.le_trans HZ6.out hb7.size); have HR7:=Lib.hid hr7; clear hr7 ha7 hb7 HR6 HK6 HB6 HZ6 z0 z1 z2 z3)
    obtain ⟨BD,hBD⟩:∃ BD,UInt8.ofNat 193 :: (beN id.size 2 ++ (beN sq 4 ++ (beN nn 4 ++ L id))) = BD:=⟨_,rfl⟩
    have hbl:BD.length = 11 + id.size:=by
      rw [← hBD]
      have:(L id).length = id.size:=(L_size id).symm
      simp only [List.length_cons,List.length_append,beN_len]
      omega
    have HR8:Hid (CRow w7 B0 A7 (11 + id.size) c7 BD):=by
      rw [← hBD]
      have:=HR7.out
      simp only [List.append_assoc,List.cons_append,List.nil_append] at this
      exact Lib.hid this
    have HSU:=Lib.hid (fun (A:Option Addr) (c n:Nat) (u:World) (hl:BD.length = n) (hr:Rd u A n 1 (bcells BD))=>(by
      subst hl
      exact sum_any A c BD u (by omega) hr:Calls Tryz.prog 79 #[.slice A n c] u (fun e w'=>e = .returned (.int .i64 (sumN BD)) ∧ Below u.heap.size u w')))
    have HBL:=Lib.hid hbl
    have HSL:=Lib.hid (sumN_lt BD)
    have HEB:Hid (E = BD ++ beN (sumN BD) 4):=Lib.hid (by rw [HEN.out,HF7.out,← hBD]; rfl)
    clear hBD hbl HR7 HEN HF7
    go_wp2_with fail
    refine (HSU.out A7 c7 (11 + id.size) _ HBL.out HR8.out.rd).mono ?_
    rintro e w8 ⟨rfl,hb8⟩
    have HR9:=Lib.hid (HR8.out.below hb8)
    have HB8:=Lib.hid (below_then HB7.out.size HB7.out hb8)
    have HZ8:Hid (B0 ≤ w8.heap.size):=Lib.hid (Nat.le_trans HZ7.out hb8.size)
    clear hb8 HR8 HB7 HZ7 HSU
    go_wp2_with fail
    refine (HP.out B0 A7 c7 (11 + id.size) (sumN BD) 4 BD _ HBL.out (by omega) (by decide) (by have:=HSL.out; omega) HR9.out HZ8.out).mono ?_
    rintro e w9 ⟨A9,c9,rfl,hr9,ha9⟩
    have hb9:=ha9.belowC HR9.out HZ8.out
    have HB9:=Lib.hid (HB8.out.trans (hb9.mono (Nat.le_of_lt hk0)))
    have HR10:=Lib.hid (hr9.mono (Nat.le_of_lt hk0))
    clear hr9 ha9 hb9
    have hfl:(BD ++ beN (sumN BD) 4).length = 11 + id.size + 4:=by rw [List.length_append,beN_len,HBL.out]
    go_wp2
    refine bodyPost_ret (v:=.tuple #[.slice A9 (11 + id.size + 4) c9,.int .i64 0]) (by simp [results,Tryz.results65,go_sem]) rfl ?_
    exact ⟨A9,c9,by rw [HEB.out,hfl,HC0.out],by rw [HEB.out,hfl]; exact HR10.out,HB9.out⟩
  · go_wp2_with fail
    clear z0 z1 z2 z3
    refine (HW.out _ _).mono ?_
    rintro e w1 ⟨rfl,hb1⟩
    have HB1:=Lib.hid (below_then HB.out.size HB.out hb1)
    have HK1:=Lib.hid (HK.out.below hb1)
    have HZ1:Hid (w.heap.size + 1 ≤ w1.heap.size):=Lib.hid (by have:=hb1.size; have:=HZ.out; omega)
    clear hb1 HB HK
    obtain ⟨z0,z1,z2,z3⟩:=HK1.out.cells4
    cases hs:R.word seq
    · have hc:=F2.out hs
      have he:=F5.out (by rw [hc]; decide)
      go_wp2
      go_ret2
      exact RetBE.none_ HB1.out he hc
    have hsq:=F8.out hs
    go_wp2_with fail
    clear z0 z1 z2 z3
    refine (HW.out _ _).mono ?_
    rintro e w2 ⟨rfl,hb2⟩
    have HB2:=Lib.hid (below_then HB1.out.size HB1.out hb2)
    have HK2:=Lib.hid (HK1.out.below hb2)
    have HZ2:Hid (w.heap.size + 1 ≤ w2.heap.size):=Lib.hid (by have:=hb2.size; have:=HZ1.out; omega)
    clear hb2 HB1 HK1
    obtain ⟨z0,z1,z2,z3⟩:=HK2.out.cells4
    cases hn:R.word no
    · have hc:=F3.out hn
      have he:=F5.out (by rw [hc]; decide)
      go_wp2
      go_ret2
      exact RetBE.none_ HB2.out he hc
    have hnq:=F9.out hn
    have hcd:=F4.out (by decide) hs hn
    clear hs hn F1 F2 F3 F4 F8 F9 HW HZ1
    by_cases hi:id.size ≤ 4096
    rotate_left
    · rw [if_neg hi] at hcd
      have he:=F5.out (by rw [hcd]; decide)
      have hi2:¬ (id.size:Int) ≤ 4096:=by omega
      go_wp2
      go_ret2
      exact RetBE.none_ HB2.out he hcd
    rw [if_pos hi] at hcd
    have hE:=F6.out hcd
    have hi2:(id.size:Int) ≤ 4096:=by omega
    obtain ⟨sq,rfl⟩:∃ a:Nat,seq = a:=⟨seq.toNat,by omega⟩
    obtain ⟨nn,rfl⟩:∃ a:Nat,no = a:=⟨no.toNat,by omega⟩
    have HEN:=Lib.hid hE
    have HC0:=Lib.hid hcd
    have F7':=F7.out
    simp only [Int.toNat_natCast] at F7'
    have HF7:=Lib.hid F7'
    clear hE hcd F5 F6 F7 F7'
    have hsq2:sq < 9223372036854775808:=by omega
    have hnn2:nn < 9223372036854775808:=by omega
    clear hsq hnq
    have HR3:Hid (CRow (w2.alloc (.cells #[.int .u8 194] 5)) w2.heap.size (some ⟨w2.heap.size,0,none⟩) 1 1 [UInt8.ofNat 194]):=Lib.hid ((rowB w2 (UInt8.ofNat 194) w2.heap.size (Nat.le_refl _)).crow)
    have hz3:(w2.alloc (.cells #[.int .u8 194] 5)).heap.size = w2.heap.size + 1:=World.size_alloc ..
    have HB3:=Lib.hid (HB2.out.alloc (Nat.le_trans (Nat.le_succ _) HZ2.out) (.cells #[.int .u8 194] 5))
    have HK3:=Lib.hid (HK2.out.alloc (.cells #[.int .u8 194] 5))
    obtain ⟨B0,hB0⟩:∃ B0,B0 = w2.heap.size:=⟨_,rfl⟩
    have hk0:w.heap.size < B0:=by have:=HZ2.out; omega
    clear HB2 HK2
    obtain ⟨u0,u1,u2,u3⟩:=HK3.out.cells4
    go_wp2_with fail
    clear z0 z1 z2 z3 u0 u1 u2 u3
    simp only [← hB0] at *
    have HZ3:Hid (B0 ≤ (w2.alloc (.cells #[.int .u8 194] 5)).heap.size):=Lib.hid (by rw [hz3]; omega)
    refine (HP.out B0 (some ⟨B0,0,none⟩) 1 1 id.size 2 [UInt8.ofNat 194] _ rfl (by decide) (by decide) (by omega) HR3.out HZ3.out).mono ?_
    rintro e w4 ⟨A4,c4,rfl,hr4,ha4⟩
    have hb4:=ha4.belowC HR3.out HZ3.out
    have HK4:=Lib.hid (HK3.out.under hb4 hk0)
    have HB4:=Lib.hid (HB3.out.trans (hb4.mono (Nat.le_of_lt hk0)))
    have HZ4:Hid (B0 ≤ w4.heap.size):=Lib.hid (Nat.le_trans HZ3.out hb4.size)
    have HR4:=Lib.hid hr4
    clear hr4 ha4 hb4 HK3 HB3 HZ3 HR3
    obtain ⟨z0,z1,z2,z3⟩:=HK4.out.cells4
    go_wp2_with fail
    clear z0 z1 z2 z3
    refine (HP.out B0 A4 c4 3 sq 4 _ _ (by simp [beN_len]) (by decide) (by decide) hsq2 HR4.out HZ4.out).mono ?_
    rintro e w5 ⟨A5,c5,rfl,hr5,ha5⟩
    have hb5:=ha5.belowC HR4.out HZ4.out
    have HK5:=Lib.hid (HK4.out.under hb5 hk0)
    have HB5:=Lib.hid (HB4.out.trans (hb5.mono (Nat.le_of_lt hk0)))
    have HZ5:Hid (B0 ≤ w5.heap.size):=Lib.hid (Nat.le_trans HZ4.out hb5.size)
    have HR5:=Lib.hid hr5
    clear hr5 ha5 hb5 HK4 HB4 HZ4 HR4
    obtain ⟨z0,z1,z2,z3⟩:=HK5.out.cells4
    go_wp2_with fail
    clear z0 z1 z2 z3
    refine (HP.out B0 A5 c5 7 nn 4 _ _ (by simp [beN_len]) (by decide) (by decide) hnn2 HR5.out HZ5.out).mono ?_
    rintro e w6 ⟨A6,c6,rfl,hr6,ha6⟩
    have hb6:=ha6.belowC HR5.out HZ5.out
    have HK6:=Lib.hid (HK5.out.under hb6 hk0)
    have HB6:=Lib.hid (HB5.out.trans (hb6.mono (Nat.le_of_lt hk0)))
    have HZ6:Hid (B0 ≤ w6.heap.size):=Lib.hid (Nat.le_trans HZ5.out hb6.size)
    obtain ⟨g,hg,hc0⟩:∃ g,A6 = some ⟨g,0,none⟩ ∧ c6 ≠ 0:=by
      have h1:=hr6.2.1
      rcases hr6.2.2 with h | ⟨g,h,_⟩
      · exact absurd h (by omega)
      · exact ⟨g,h,by omega⟩
    subst hg
    have HR6:=Lib.hid hr6
    clear hr6 ha6 hb6 HK5 HB5 HZ5 HR5
    obtain ⟨z0,z1,z2,z3⟩:=HK6.out.cells4
    go_wp2_with (at_builtin; refine appStr _ rfl _ _ rfl B0 g 11 c6 _ rfl hc0 HR6.out id rfl (by omega) HZ6.out ?_; intro A7 c7 w7 hr7 ha7; have hb7:=ha7.belowC HR6.out HZ6.out; have HB7:=Lib.hid (HB6.out.trans (hb7.mono (Nat.le_of_lt hk0))); have HZ7:Hid (B0 ≤ w7.heap.size):=Lib.hid (Nat.le_trans HZ6.out hb7.size); have HR7:=Lib.hid hr7; clear hr7 ha7 hb7 HR6 HK6 HB6 HZ6 z0 z1 z2 z3)
    obtain ⟨BD,hBD⟩:∃ BD,UInt8.ofNat 194 :: (beN id.size 2 ++ (beN sq 4 ++ (beN nn 4 ++ L id))) = BD:=⟨_,rfl⟩
    have hbl:BD.length = 11 + id.size:=by
      rw [← hBD]
      have:(L id).length = id.size:=(L_size id).symm
      simp only [List.length_cons,List.length_append,beN_len]
      omega
    have HR8:Hid (CRow w7 B0 A7 (11 + id.size) c7 BD):=by
      rw [← hBD]
      have:=HR7.out
      simp only [List.append_assoc,List.cons_append,List.nil_append] at this
      exact Lib.hid this
    have HSU:=Lib.hid (fun (A:Option Addr) (c n:Nat) (u:World) (hl:BD.length = n) (hr:Rd u A n 1 (bcells BD))=>(by
      subst hl
      exact sum_any A c BD u (by omega) hr:Calls Tryz.prog 79 #[.slice A n c] u (fun e w'=>e = .returned (.int .i64 (sumN BD)) ∧ Below u.heap.size u w')))
    have HBL:=Lib.hid hbl
    have HSL:=Lib.hid (sumN_lt BD)
    have HEB:Hid (E = BD ++ beN (sumN BD) 4):=Lib.hid (by rw [HEN.out,HF7.out,← hBD]; rfl)
    clear hBD hbl HR7 HEN HF7
    go_wp2_with fail
    refine (HSU.out A7 c7 (11 + id.size) _ HBL.out HR8.out.rd).mono ?_
    rintro e w8 ⟨rfl,hb8⟩
    have HR9:=Lib.hid (HR8.out.below hb8)
    have HB8:=Lib.hid (below_then HB7.out.size HB7.out hb8)
    have HZ8:Hid (B0 ≤ w8.heap.size):=Lib.hid (Nat.le_trans HZ7.out hb8.size)
    clear hb8 HR8 HB7 HZ7 HSU
    go_wp2_with fail
    refine (HP.out B0 A7 c7 (11 + id.size) (sumN BD) 4 BD _ HBL.out (by omega) (by decide) (by have:=HSL.out; omega) HR9.out HZ8.out).mono ?_
    rintro e w9 ⟨A9,c9,rfl,hr9,ha9⟩
    have hb9:=ha9.belowC HR9.out HZ8.out
    have HB9:=Lib.hid (HB8.out.trans (hb9.mono (Nat.le_of_lt hk0)))
    have HR10:=Lib.hid (hr9.mono (Nat.le_of_lt hk0))
    clear hr9 ha9 hb9
    have hfl:(BD ++ beN (sumN BD) 4).length = 11 + id.size + 4:=by rw [List.length_append,beN_len,HBL.out]
    go_wp2
    refine bodyPost_ret (v:=.tuple #[.slice A9 (11 + id.size + 4) c9,.int .i64 0]) (by simp [results,Tryz.results65,go_sem]) rfl ?_
    exact ⟨A9,c9,by rw [HEB.out,hfl,HC0.out],by rw [HEB.out,hfl]; exact HR10.out,HB9.out⟩
end Go.Proofs.YtkempjcphpnocaaGreatDoor
namespace Go.Proofs.YtkempjcphpnocaaGreatDoor
namespace S
open D (Fit)
variable {k:Nat} {d:D.Dsk} {s:Sto}
theorem steps_fit:∀ (l:List (D.Dsk → D.Dsk × Int)) {k:Nat} {d:D.Dsk},(∀ f ∈ l,∀ (k:Nat) (d:D.Dsk),Fit k d → Fit (k + 1) (f d).1) → Fit k d → Fit (k + l.length) (steps d l).1
  | [],_,_,_,h=>h
  | f :: r,k,d,hf,h=>by
    have h1:=hf f (by simp) k d h
    unfold steps
    rw [List.length_cons]
    split
    · exact h1.mono (by omega)
    · exact (steps_fit r (fun g hg=>hf g (List.mem_cons_of_mem _ hg)) h1).mono (by omega)
theorem moves_fit (b:List UInt8):∀ f ∈ moves b,∀ (k:Nat) (d:D.Dsk),Fit k d → Fit (k + 1) (f d).1:=by
  intro f hf k d h
  unfold moves at hf
  simp only [List.mem_cons,List.not_mem_nil,or_false] at hf
  rcases hf with rfl | rfl | rfl | rfl
  · exact h.create _
  · exact h.append _ _
  · exact h.sync _
  · exact h.rename _ _
theorem firsts_fit:∀ f ∈ firsts,∀ (k:Nat) (d:D.Dsk),Fit k d → Fit (k + 1) (f d).1:=by
  intro f hf k d h
  unfold firsts at hf
  simp only [List.mem_cons,List.not_mem_nil,or_false] at hf
  rcases hf with rfl | rfl | rfl
  · exact h.create _
  · exact h.sync _
  · exact h.syncNames
theorem rewrite_fit (h:Fit k d) (count:Nat) (list:List R.Rc):Fit (k + 5) (rewrite d count list).1:=by
  have h1:=steps_fit (moves (R.encAll list 0 []).1) (moves_fit _) h
  have h2:(moves (R.encAll list 0 []).1).length = 4:=rfl
  rw [h2] at h1
  unfold rewrite
  split
  · exact h.mono (by omega)
  · split
    · exact h1.syncNames
    · split
      · exact h1.mono (by omega)
      · exact h1.remove _
theorem add_fit (h:Fit k d) (count:Nat) (op no:Int) (id:ByteArray):Fit (k + 2) (add d count op no id).1:=by
  unfold add
  split
  · exact h.mono (by omega)
  · split
    · exact (h.append _ _).mono (by omega)
    · exact (h.append _ _).sync _
theorem logOpen_fit (h:Fit k d):Fit (k + 9) (logOpen d).1:=by
  unfold logOpen
  have hx:Fit (k + 1) (if has d.list newN then d.remove newN else (d,0)).1:=by
    split
    · exact h.remove _
    · exact h.mono (by omega)
  generalize (if has d.list newN then d.remove newN else (d,0)) = x at *
  dsimp only
  split
  · exact hx.mono (by omega)
  have hy:Fit (k + 4) (if (x.1.read logN).2 = 90 then ((steps x.1 firsts).1,(steps x.1 firsts).2.2) else (x.1,(x.1.read logN).2)).1:=by
    split
    · exact steps_fit firsts firsts_fit hx
    · exact hx.mono (by omega)
  generalize (if (x.1.read logN).2 = 90 then ((steps x.1 firsts).1,(steps x.1 firsts).2.2) else (x.1,(x.1.read logN).2)) = y at *
  split
  · exact hy.mono (by omega)
  split
  · have hz:=rewrite_fit hy 0 (R.replay (x.1.read logN).1).1
    split
    · exact hz
    · exact hz
  · exact hy.mono (by omega)
theorem tidy_fit (h:Fit k s.d):Fit (k + 5) s.tidy.d:=by
  unfold Sto.tidy
  split
  · exact h.mono (by omega)
  · exact rewrite_fit h _ _
theorem lay_fit (h:Fit k d) (p:ByteArray) (b:List UInt8):Fit (k + 5) (lay d p b).1:=by
  unfold lay
  have hx:Fit (k + 1) (if has d.list p then d.remove p else (d,0)).1:=by
    split
    · exact h.remove _
    · exact h.mono (by omega)
  generalize (if has d.list p then d.remove p else (d,0)) = x at *
  dsimp only
  split
  · exact hx.mono (by omega)
  · split
    · exact (hx.create _).mono (by omega)
    · split
      · exact ((hx.create _).append _ _).mono (by omega)
      · split
        · exact (((hx.create _).append _ _).sync _).mono (by omega)
        · exact (((hx.create _).append _ _).sync _).syncNames
theorem free_fit (h:Fit k s.d) (no:Nat):Fit (k + 1) (s.free no).d:=h.remove _
theorem entered_fit (no:Nat) (id:ByteArray) (x:D.Dsk × Bool × Int) (h:Fit k x.1):Fit (k + 8) (s.entered no id x).1.d:=by
  unfold Sto.entered
  have hy:Fit (k + 2) (if x.2.2 = 0 then add x.1 s.count 1 no id else (x.1,s.count,x.2.2):D.Dsk × Nat × Int).1:=by
    split
    · exact add_fit h _ _ _ _
    · exact h.mono (by omega)
  generalize (if x.2.2 = 0 then add x.1 s.count 1 no id else (x.1,s.count,x.2.2):D.Dsk × Nat × Int) = y at *
  dsimp only
  split
  · split
    · exact (hy.remove _).mono (by omega)
    · exact hy.mono (by omega)
  · refine tidy_fit (k:=k + 3) ?_
    show Fit (k + 3) (({ s with d:=y.1,count:=y.2.1 }:Sto).freed id).d
    unfold Sto.freed
    split
    · exact free_fit (s:={ s with d:=y.1,count:=y.2.1 }) hy _
    · exact hy.mono (by omega)
theorem put_fit (h:Fit k s.d) (E:O.Ent):Fit (k + 13) (s.put E).1.d:=by
  unfold Sto.put
  split
  · exact h.mono (by omega)
  · split
    · exact h.mono (by omega)
    · split
      · exact h.mono (by omega)
      · exact entered_fit _ _ _ (lay_fit h _ _)
theorem drop_fit (h:Fit k s.d) (id:ByteArray):Fit (k + 8) (s.drop id).1.d:=by
  unfold Sto.drop
  split
  · exact h.mono (by omega)
  · rename_i no _
    have hy:=add_fit h s.count 2 no id
    dsimp only
    split
    · exact hy.mono (by omega)
    · exact tidy_fit (k:=k + 3) (free_fit (s:={ s with d:=_,count:=_,tab:=_ }) hy _)
end S
end Go.Proofs.YtkempjcphpnocaaGreatDoor
namespace Go.Proofs.YtkempjcphpnocaaGreatDoor
namespace S
open D (cont Clm)
def fresh (room:Int):D.Dsk:=⟨[],[],[],[],[],room,[],-1,0⟩
theorem fresh_calm {room:Int} (h:0 ≤ room):Clm (fresh room) :=
  ⟨rfl,rfl,⟨rfl,List.Pairwise.nil,List.Pairwise.nil,(fun _ h=>by cases h),(fun _ h=>by cases h),(fun _ h=>by cases h),rfl,fun _ h=>absurd h (Nat.not_lt_zero _)⟩,(fun _ h=>by cases h),h⟩
theorem fresh_fit {room:Int} (h:0 ≤ room ∧ room ≤ 1073741824):D.Fit 0 (fresh room) :=
  ⟨⟨(fun _ h=>by cases h),(fun _ h=>by cases h),(fun _ h=>by cases h)⟩,(fresh_calm h.1).ok,Int.le_refl _,Int.le_refl _,Nat.le_refl _,Nat.le_refl _,Nat.le_refl _,Nat.zero_le _,h,fun no=>by unfold D.Dsk.size fresh; simp⟩
theorem marks_len (n:Nat) (t:D.NM):(marks n t).length = n:=by unfold marks; simp
end S
end Go.Proofs.YtkempjcphpnocaaGreatDoor
namespace Go.Proofs.YtkempjcphpnocaaGreatDoor
namespace S
open D (cont Clm)
def born (room:Int):D.Dsk:=(((fresh room).create logN).1.sync logN).1.syncNames.1
theorem born_facts {room:Int} (h0:0 ≤ room):steps (fresh room) firsts = (born room,3,0) ∧ has (fresh room).list newN = false ∧ (fresh room).read logN = ([],90) ∧ (∀ nm ∈ (born room).list,isO nm = false ∧ nm.size ≤ 4096) ∧ ∀ n:Nat,n ≤ 4096 → Inv ⟨born room,0,[],marks n []⟩:=by
  have h:=fresh_calm h0
  have hc:∀ x,cont (fresh room) x = none:=fun _=>rfl
  obtain ⟨e1,c1,k1⟩:=h.create log_good (hc _)
  obtain ⟨e2,c2,k2⟩:=c1.sync log_good (c:=[]) (by rw [k1,if_pos rfl])
  obtain ⟨e3,c3,k3⟩:=c2.syncNames
  have k:∀ x,cont (born room) x = if x = logN then some [] else none:=fun x=>by unfold born; rw [k3,k2,k1,hc]
  refine ⟨by simp [steps,firsts,e1,e2,e3,born],rfl,by rw [h.read log_good,hc],fun nm hm=>?_,fun n hn=>⟨c3,⟨[],by show cont (born room) _ = _; rw [k,if_pos rfl]⟩,by show cont (born room) _ = _; rw [k,if_neg new_log],List.Pairwise.nil,by show (marks n []).length ≤ _; rw [marks_len]; omega,(fun _ h=>by cases h),(fun _ h=>by cases h),fun no hn hi=>?_⟩⟩
  · have:=c3.mem (x:=nm)
    have hm2:=this.1 hm
    have h3:(cont (born room) nm).isSome = true:=hm2
    rw [k] at h3
    by_cases e:nm = logN
    · rw [e]; exact ⟨by decide,by decide⟩
    · rw [if_neg e] at h3; cases h3
  · change (cont (born room) _).isSome = true at hi
    rw [k,if_neg (path_log hn)] at hi
    cases hi
theorem born_fit {room:Int} (h:0 ≤ room ∧ room ≤ 1073741824):D.Fit 3 (born room):=by
  have:=steps_fit firsts firsts_fit (fresh_fit h)
  rw [(born_facts h.1).1] at this
  exact this
theorem marks_rep (n:Nat):marks n [] = List.replicate n false:=by
  unfold marks
  have:=List.map_const' (l:=List.range n) (b:=false)
  rw [List.length_range] at this
  exact this
end S
end Go.Proofs.YtkempjcphpnocaaGreatDoor
