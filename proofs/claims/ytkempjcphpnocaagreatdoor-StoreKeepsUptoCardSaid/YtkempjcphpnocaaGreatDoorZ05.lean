/- The walks of utf8.decodeRuneSlow and utf8.DecodeRune at a first byte above 127, in a row of bytes. Conditions: the library's two tables of UTF-8 as its text lays them. The walks of tok.tokenByte, Token, head.visible, fields.good and of their twins in the document. Condition: texts of at most 2^40 bytes. The walks of the document's Byte, Token, Text, Value and visible, and of fields.good. Condition: texts of at most 2^40 bytes. -/
import Derived.Test.YtkempjcphpnocaaGreatDoorLib
import Derived.Shelf.Unicode.DecodeSlow
import Derived.Test.YtkempjcphpnocaaGreatDoorZ00
namespace Go.Proofs.YtkempjcphpnocaaGreatDoor
open Go.RowKit Go.Lib
set_option maxHeartbeats 4000000 in
set_option maxRecDepth 1000000 in
theorem decodeSlow_any (b o n c:Nat) (x0 x1 x2 x3:Nat) (w:World) (hn:1 ≤ n) (hnm:n ≤ 1099511627776) (l0:x0 < 256) (l1:x1 < 256) (l2:x2 < 256) (l3:x3 < 256) (hb0:128 ≤ x0)
    (k0:w.cell? ⟨b,o,none⟩ = some (.int .u8 x0)) (k1:1 < n → w.cell? ⟨b,o + 1,none⟩ = some (.int .u8 x1)) (k2:2 < n → w.cell? ⟨b,o + 2,none⟩ = some (.int .u8 x2)) (k3:3 < n → w.cell? ⟨b,o + 3,none⟩ = some (.int .u8 x3)) (hT:Lib.Utf8Tabs 0 1 w) :
    Calls Tryz.prog 214 #[.slice (some ⟨b,o,none⟩) n c] w fun e w'=>e = .returned (.tuple #[.int .i32 (decodeN n x0 x1 x2 x3).1,.int .i64 (decodeN n x0 x1 x2 x3).2]) ∧ Below w.heap.size w w':=by
  have hz0:(0:Int) < (n:Int):=by omega
  have hz0':¬ ((n:Int) < 1):=by omega
  have hc0:=hT.1 x0 (by omega)
  have hres:firstT x0 < 240 → decodeN n x0 x1 x2 x3 = slowN n x0 x1 x2 x3 (firstT x0 % 8) (accLo (firstT x0 / 16)) (accHi (firstT x0 / 16)) :=
    fun h=>(Lib.slow_eq _ _ _ _ _ (by omega) (by omega) (by omega) (by omega) h).symm
  have hblt:b < w.heap.size:=cell_lt k0
  have hne:∀ j v,w.cell? ⟨b,j,none⟩ = some v → b < w.heap.size:=fun _ _ _=>hblt
  clear hne
  rcases Lib.firstT_cases x0 with hX | hX | hX | hX | hX | hX | hX | hX | hX
  · exfalso
    unfold firstT at hX
    repeat' split at hX
    all_goals omega
  · rw [Lib.bad_eq _ _ _ _ _ (by omega) hX]
    rw [hX] at hc0
    clear hres hT hX k1 k2 k3
    go_enter Tryz.func214,Tryz.ntmps214
    go_wp2
    rw [Utf8W.mask241,Utf8W.drop_byte ⟨x0,l0⟩]
    go_ret2
    exact ⟨rfl,Below.refl _ _⟩
  all_goals replace hres:=hres (by omega)
  · rw [hX] at hc0 hres
    have ha0:=(hT.2 0 (by omega)).1
    have ha1:=(hT.2 0 (by omega)).2
    simp only [accLo,accHi,Nat.reduceMul,Nat.reduceAdd,Nat.reduceEqDiff,if_true,if_false,Nat.reduceMod,Nat.reduceDiv] at ha0 ha1 hres
    rw [hres]
    clear hres hT hX
    by_cases hn':n < 2
    · have hnz:(n:Int) < 2:=by omega
      clear k1 k2 k3
      go_enter Tryz.func214,Tryz.ntmps214
      go_wp2
      all_goals
        go_ret2
        refine ⟨?_,(Below.refl _ _).alloc (Nat.le_refl _) _⟩
        unfold slowN
        repeat' split
        all_goals first
          | (exfalso; omega)
          | rfl
          | (simp only [Int.natCast_add,Int.natCast_mul,Int.natCast_emod,Int.natCast_ofNat]; rfl)
    · clear k2 k3
      have hz1:(1:Int) < (n:Int):=by omega
      replace k1:=k1 (by omega)
      go_enter Tryz.func214,Tryz.ntmps214
      go_wp2
      all_goals
        go_ret2
        refine ⟨?_,(Below.refl _ _).alloc (Nat.le_refl _) _⟩
        unfold slowN
        repeat' split
        all_goals first
          | (exfalso; omega)
          | rfl
          | (simp only [Int.natCast_add,Int.natCast_mul,Int.natCast_emod,Int.natCast_ofNat]; rfl)
  · rw [hX] at hc0 hres
    have ha0:=(hT.2 1 (by omega)).1
    have ha1:=(hT.2 1 (by omega)).2
    simp only [accLo,accHi,Nat.reduceMul,Nat.reduceAdd,Nat.reduceEqDiff,if_true,if_false,Nat.reduceMod,Nat.reduceDiv] at ha0 ha1 hres
    rw [hres]
    clear hres hT hX
    by_cases hn':n < 3
    · have hnz:(n:Int) < 3:=by omega
      clear k1 k2 k3
      go_enter Tryz.func214,Tryz.ntmps214
      go_wp2
      all_goals
        go_ret2
        refine ⟨?_,(Below.refl _ _).alloc (Nat.le_refl _) _⟩
        unfold slowN
        repeat' split
        all_goals first
          | (exfalso; omega)
          | rfl
          | (simp only [Int.natCast_add,Int.natCast_mul,Int.natCast_emod,Int.natCast_ofNat]; rfl)
    · clear k3
      have hz1:(1:Int) < (n:Int):=by omega
      replace k1:=k1 (by omega)
      have hz2:(2:Int) < (n:Int):=by omega
      replace k2:=k2 (by omega)
      go_enter Tryz.func214,Tryz.ntmps214
      go_wp2
      all_goals
        go_ret2
        refine ⟨?_,(Below.refl _ _).alloc (Nat.le_refl _) _⟩
        unfold slowN
        repeat' split
        all_goals first
          | (exfalso; omega)
          | rfl
          | (simp only [Int.natCast_add,Int.natCast_mul,Int.natCast_emod,Int.natCast_ofNat]; rfl)
  · rw [hX] at hc0 hres
    have ha0:=(hT.2 0 (by omega)).1
    have ha1:=(hT.2 0 (by omega)).2
    simp only [accLo,accHi,Nat.reduceMul,Nat.reduceAdd,Nat.reduceEqDiff,if_true,if_false,Nat.reduceMod,Nat.reduceDiv] at ha0 ha1 hres
    rw [hres]
    clear hres hT hX
    by_cases hn':n < 3
    · have hnz:(n:Int) < 3:=by omega
      clear k1 k2 k3
      go_enter Tryz.func214,Tryz.ntmps214
      go_wp2
      all_goals
        go_ret2
        refine ⟨?_,(Below.refl _ _).alloc (Nat.le_refl _) _⟩
        unfold slowN
        repeat' split
        all_goals first
          | (exfalso; omega)
          | rfl
          | (simp only [Int.natCast_add,Int.natCast_mul,Int.natCast_emod,Int.natCast_ofNat]; rfl)
    · clear k3
      have hz1:(1:Int) < (n:Int):=by omega
      replace k1:=k1 (by omega)
      have hz2:(2:Int) < (n:Int):=by omega
      replace k2:=k2 (by omega)
      go_enter Tryz.func214,Tryz.ntmps214
      go_wp2
      all_goals
        go_ret2
        refine ⟨?_,(Below.refl _ _).alloc (Nat.le_refl _) _⟩
        unfold slowN
        repeat' split
        all_goals first
          | (exfalso; omega)
          | rfl
          | (simp only [Int.natCast_add,Int.natCast_mul,Int.natCast_emod,Int.natCast_ofNat]; rfl)
  · rw [hX] at hc0 hres
    have ha0:=(hT.2 2 (by omega)).1
    have ha1:=(hT.2 2 (by omega)).2
    simp only [accLo,accHi,Nat.reduceMul,Nat.reduceAdd,Nat.reduceEqDiff,if_true,if_false,Nat.reduceMod,Nat.reduceDiv] at ha0 ha1 hres
    rw [hres]
    clear hres hT hX
    by_cases hn':n < 3
    · have hnz:(n:Int) < 3:=by omega
      clear k1 k2 k3
      go_enter Tryz.func214,Tryz.ntmps214
      go_wp2
      all_goals
        go_ret2
        refine ⟨?_,(Below.refl _ _).alloc (Nat.le_refl _) _⟩
        unfold slowN
        repeat' split
        all_goals first
          | (exfalso; omega)
          | rfl
          | (simp only [Int.natCast_add,Int.natCast_mul,Int.natCast_emod,Int.natCast_ofNat]; rfl)
    · clear k3
      have hz1:(1:Int) < (n:Int):=by omega
      replace k1:=k1 (by omega)
      have hz2:(2:Int) < (n:Int):=by omega
      replace k2:=k2 (by omega)
      go_enter Tryz.func214,Tryz.ntmps214
      go_wp2
      all_goals
        go_ret2
        refine ⟨?_,(Below.refl _ _).alloc (Nat.le_refl _) _⟩
        unfold slowN
        repeat' split
        all_goals first
          | (exfalso; omega)
          | rfl
          | (simp only [Int.natCast_add,Int.natCast_mul,Int.natCast_emod,Int.natCast_ofNat]; rfl)
  · rw [hX] at hc0 hres
    have ha0:=(hT.2 3 (by omega)).1
    have ha1:=(hT.2 3 (by omega)).2
    simp only [accLo,accHi,Nat.reduceMul,Nat.reduceAdd,Nat.reduceEqDiff,if_true,if_false,Nat.reduceMod,Nat.reduceDiv] at ha0 ha1 hres
    rw [hres]
    clear hres hT hX
    by_cases hn':n < 4
    · have hnz:(n:Int) < 4:=by omega
      clear k1 k2 k3
      go_enter Tryz.func214,Tryz.ntmps214
      go_wp2
      all_goals
        go_ret2
        refine ⟨?_,(Below.refl _ _).alloc (Nat.le_refl _) _⟩
        unfold slowN
        repeat' split
        all_goals first
          | (exfalso; omega)
          | rfl
          | (simp only [Int.natCast_add,Int.natCast_mul,Int.natCast_emod,Int.natCast_ofNat]; rfl)
    · skip
      have hz1:(1:Int) < (n:Int):=by omega
      replace k1:=k1 (by omega)
      have hz2:(2:Int) < (n:Int):=by omega
      replace k2:=k2 (by omega)
      have hz3:(3:Int) < (n:Int):=by omega
      replace k3:=k3 (by omega)
      go_enter Tryz.func214,Tryz.ntmps214
      go_wp2
      all_goals
        go_ret2
        refine ⟨?_,(Below.refl _ _).alloc (Nat.le_refl _) _⟩
        unfold slowN
        repeat' split
        all_goals first
          | (exfalso; omega)
          | rfl
          | (simp only [Int.natCast_add,Int.natCast_mul,Int.natCast_emod,Int.natCast_ofNat]; rfl)
  · rw [hX] at hc0 hres
    have ha0:=(hT.2 0 (by omega)).1
    have ha1:=(hT.2 0 (by omega)).2
    simp only [accLo,accHi,Nat.reduceMul,Nat.reduceAdd,Nat.reduceEqDiff,if_true,if_false,Nat.reduceMod,Nat.reduceDiv] at ha0 ha1 hres
    rw [hres]
    clear hres hT hX
    by_cases hn':n < 4
    · have hnz:(n:Int) < 4:=by omega
      clear k1 k2 k3
      go_enter Tryz.func214,Tryz.ntmps214
      go_wp2
      all_goals
        go_ret2
        refine ⟨?_,(Below.refl _ _).alloc (Nat.le_refl _) _⟩
        unfold slowN
        repeat' split
        all_goals first
          | (exfalso; omega)
          | rfl
          | (simp only [Int.natCast_add,Int.natCast_mul,Int.natCast_emod,Int.natCast_ofNat]; rfl)
    · skip
      have hz1:(1:Int) < (n:Int):=by omega
      replace k1:=k1 (by omega)
      have hz2:(2:Int) < (n:Int):=by omega
      replace k2:=k2 (by omega)
      have hz3:(3:Int) < (n:Int):=by omega
      replace k3:=k3 (by omega)
      go_enter Tryz.func214,Tryz.ntmps214
      go_wp2
      all_goals
        go_ret2
        refine ⟨?_,(Below.refl _ _).alloc (Nat.le_refl _) _⟩
        unfold slowN
        repeat' split
        all_goals first
          | (exfalso; omega)
          | rfl
          | (simp only [Int.natCast_add,Int.natCast_mul,Int.natCast_emod,Int.natCast_ofNat]; rfl)
  · rw [hX] at hc0 hres
    have ha0:=(hT.2 4 (by omega)).1
    have ha1:=(hT.2 4 (by omega)).2
    simp only [accLo,accHi,Nat.reduceMul,Nat.reduceAdd,Nat.reduceEqDiff,if_true,if_false,Nat.reduceMod,Nat.reduceDiv] at ha0 ha1 hres
    rw [hres]
    clear hres hT hX
    by_cases hn':n < 4
    · have hnz:(n:Int) < 4:=by omega
      clear k1 k2 k3
      go_enter Tryz.func214,Tryz.ntmps214
      go_wp2
      all_goals
        go_ret2
        refine ⟨?_,(Below.refl _ _).alloc (Nat.le_refl _) _⟩
        unfold slowN
        repeat' split
        all_goals first
          | (exfalso; omega)
          | rfl
          | (simp only [Int.natCast_add,Int.natCast_mul,Int.natCast_emod,Int.natCast_ofNat]; rfl)
    · skip
      have hz1:(1:Int) < (n:Int):=by omega
      replace k1:=k1 (by omega)
      have hz2:(2:Int) < (n:Int):=by omega
      replace k2:=k2 (by omega)
      have hz3:(3:Int) < (n:Int):=by omega
      replace k3:=k3 (by omega)
      go_enter Tryz.func214,Tryz.ntmps214
      go_wp2
      all_goals
        go_ret2
        refine ⟨?_,(Below.refl _ _).alloc (Nat.le_refl _) _⟩
        unfold slowN
        repeat' split
        all_goals first
          | (exfalso; omega)
          | rfl
          | (simp only [Int.natCast_add,Int.natCast_mul,Int.natCast_emod,Int.natCast_ofNat]; rfl)
set_option maxHeartbeats 1000000 in
set_option maxRecDepth 100000 in
theorem decodeRune_any (b o n c:Nat) (x0 x1 x2 x3:Nat) (w:World) (hn:1 ≤ n) (hnm:n ≤ 1099511627776) (l0:x0 < 256) (l1:x1 < 256) (l2:x2 < 256) (l3:x3 < 256) (hb0:128 ≤ x0)
    (k0:w.cell? ⟨b,o,none⟩ = some (.int .u8 x0)) (k1:1 < n → w.cell? ⟨b,o + 1,none⟩ = some (.int .u8 x1)) (k2:2 < n → w.cell? ⟨b,o + 2,none⟩ = some (.int .u8 x2)) (k3:3 < n → w.cell? ⟨b,o + 3,none⟩ = some (.int .u8 x3)) (hT:Lib.Utf8Tabs 0 1 w) :
    Calls Tryz.prog 197 #[.slice (some ⟨b,o,none⟩) n c] w fun e w'=>e = .returned (.tuple #[.int .i32 (decodeN n x0 x1 x2 x3).1,.int .i64 (decodeN n x0 x1 x2 x3).2]) ∧ Below w.heap.size w w':=by
  have HC:=Lib.hid (decodeSlow_any b o n c x0 x1 x2 x3 w hn hnm l0 l1 l2 l3 hb0 k0 k1 k2 k3 hT)
  generalize (decodeN n x0 x1 x2 x3).1 = r at *
  generalize (decodeN n x0 x1 x2 x3).2 = k at *
  have hz0:(0:Int) < (n:Int):=by omega
  have hge:¬ ((x0:Int) < 128):=by omega
  clear k1 k2 k3 hT
  go_enter Tryz.func197,Tryz.ntmps197
  go_wp2_with fail
  go_loop [8] (fun i=>i = .int .i64 0) (fun _=>0)
  case atStart=>exact rfl
  case round =>
    subst hrel
    go_wp2_with fail
    refine HC.out.mono ?_
    rintro e w' ⟨rfl,hb⟩
    go_wp2
    go_ret2
    exact ⟨rfl,hb⟩
end Go.Proofs.YtkempjcphpnocaaGreatDoor
namespace Go.Proofs.YtkempjcphpnocaaGreatDoor
open Go.RowKit
def RetP (w:World) (v:Value) (e:Ending) (w':World):Prop:=e = .returned v ∧ w = w'
theorem seven (n:Nat):n < 48 ∨ (48 ≤ n ∧ n ≤ 57) ∨ (57 < n ∧ n < 65) ∨ (65 ≤ n ∧ n ≤ 90) ∨ (90 < n ∧ n < 97) ∨ (97 ≤ n ∧ n ≤ 122) ∨ 122 < n:=by omega
theorem tokB_num {c:UInt8} (h:48 ≤ c.toNat ∧ c.toNat ≤ 57 ∨ 65 ≤ c.toNat ∧ c.toNat ≤ 90 ∨ 97 ≤ c.toNat ∧ c.toNat ≤ 122):T.tokB c = true:=by
  unfold T.tokB
  rcases h with h | h | h
  · simp [h.1,h.2]
  · simp [h.1,h.2]
  · simp [h.1,h.2]
theorem tokB_other {c:UInt8} (h1:¬ (48 ≤ c.toNat ∧ c.toNat ≤ 57)) (h2:¬ (65 ≤ c.toNat ∧ c.toNat ≤ 90)) (h3:¬ (97 ≤ c.toNat ∧ c.toNat ≤ 122)):T.tokB c = T.others.contains c:=by
  unfold T.tokB
  have e1:(decide (48 ≤ c.toNat) && decide (c.toNat ≤ 57)) = false:=by simp; omega
  have e2:(decide (65 ≤ c.toNat) && decide (c.toNat ≤ 90)) = false:=by simp; omega
  have e3:(decide (97 ≤ c.toNat) && decide (c.toNat ≤ 122)) = false:=by simp; omega
  rw [e1,e2,e3]
  rfl
theorem indexByte_contains:∀ (l:List UInt8) (c:UInt8),(l.contains c = true ∧ 0 ≤ Lib.indexByte l c) ∨ (l.contains c = false ∧ Lib.indexByte l c < 0)
  | [],_=>.inr ⟨rfl,by simp [Lib.indexByte]⟩
  | b :: l,c=>by
    have ih:=indexByte_contains l c
    by_cases h:b = c
    · subst h
      left
      simp [Lib.indexByte]
    · have h1:(b == c) = false:=by simpa using h
      have h2:(c == b) = false:=by simpa using Ne.symm h
      have hcc:(b :: l).contains c = l.contains c:=by rw [List.contains_cons,h2,Bool.false_or]
      rw [hcc]
      unfold Lib.indexByte
      rw [h1]
      simp only [Bool.false_eq_true,if_false]
      rcases ih with ⟨i1,i2⟩ | ⟨i1,i2⟩
      · left
        refine ⟨i1,?_⟩
        split
        · rename_i h3
          have:Lib.indexByte l c = -1:=by simpa using h3
          omega
        · omega
      · right
        refine ⟨i1,?_⟩
        split
        · omega
        · rename_i h3
          have:¬ Lib.indexByte l c = -1:=by simpa using h3
          have lo:∀ (l:List UInt8),-1 ≤ Lib.indexByte l c:=by
            intro l
            induction l with
            | nil=>simp [Lib.indexByte]
            | cons x l ih =>
              unfold Lib.indexByte
              split
              · omega
              · split
                · omega
                · omega
          have:=lo l
          omega
theorem u8_self (c:UInt8):((c.toNat:Int).toNat).toUInt8 = c:=by simp
theorem index_any (c:UInt8) (w:World):Calls Tryz.prog 169 #[.string ⟨#[33,35,36,37,38,39,42,43,45,46,94,95,124,126,96]⟩,.int .u8 c.toNat] w (RetP w (.int .i64 (Lib.indexByte T.others c))):=by
  refine (Tryz.strings_IndexByte ⟨#[33,35,36,37,38,39,42,43,45,46,94,95,124,126,96]⟩ c.toNat w).mono ?_
  rintro e w' ⟨rfl,rfl⟩
  rw [u8_self]
  exact ⟨rfl,rfl⟩
set_option maxHeartbeats 1000000 in
theorem tokenByte_any (c:UInt8) (w:World):Calls Tryz.prog 174 #[.int .u8 c.toNat] w (RetP w (.bool (T.tokB c))):=by
  have HI:=Lib.hid (index_any c)
  have hc:=indexByte_contains T.others c
  have hc2:c.toNat < 256:=c.toNat_lt
  rcases seven c.toNat with h | ⟨h,h'⟩ | ⟨h,h'⟩ | ⟨h,h'⟩ | ⟨h,h'⟩ | ⟨h,h'⟩ | h
  case inr.inl | inr.inr.inr.inl | inr.inr.inr.inr.inr.inl =>
    rw [tokB_num (by omega)]
    clear hc HI
    go_enter Tryz.func174,Tryz.ntmps174
    go_wp2
    go_ret
    exact ⟨rfl,rfl⟩
  all_goals
    rw [tokB_other (by omega) (by omega) (by omega)]
    generalize Lib.indexByte T.others c = i at *
    rcases hc with ⟨e1,e2⟩ | ⟨e1,e2⟩
    all_goals
      rw [e1]
      clear e1
      go_enter Tryz.func174,Tryz.ntmps174
      go_wp2_with fail
      refine (HI.out _).mono ?_
      rintro e w' ⟨rfl,rfl⟩
      go_wp2
      go_ret
      exact ⟨ret_bool (by first | (simp; done) | (simp; omega)),rfl⟩
theorem all_step (p:UInt8 → Bool) (l:List UInt8) (k:Nat) (h:k < l.length) (ha:(l.take k).all p = true) (hp:p l[k] = true):(l.take (k + 1)).all p = true:=by
  rw [List.take_succ_eq_append_getElem h,List.all_append,ha]
  simp [hp]
theorem all_no (p:UInt8 → Bool) (l:List UInt8) (k:Nat) (h:k < l.length) (hp:p l[k] = false):l.all p = false:=by
  rw [List.all_eq_false]
  exact ⟨l[k],List.getElem_mem h,by simp [hp]⟩
theorem token_no {l:List UInt8} (h:l.all T.tokB = false):T.token l = false:=by unfold T.token; rw [h]; rfl
theorem token_yes {l:List UInt8} (h:l.all T.tokB = true):T.token l = decide (0 < l.length):=by
  unfold T.token; rw [h]; cases l <;> simp
set_option maxHeartbeats 400000 in
theorem token_any (s:ByteArray) (w:World) (hs:s.size ≤ 1099511627776):Calls Tryz.prog 150 #[.string s] w (RetP w (.bool (T.token (L s)))):=by
  have HZ:Hid ((L s).length = s.size):=(L_size s).symm
  go_enter Tryz.func150,Tryz.ntmps150
  go_wp2
  go_loop [3,6] (fun _ i=>∃ k:Nat,k ≤ s.size ∧ i = .int .i64 k ∧ ((L s).take k).all T.tokB = true) (fun _ i=>s.size - (intOf i).toNat)
  case atStart=>exact ⟨0,Nat.zero_le _,rfl,by simp⟩
  case round =>
    obtain ⟨k,hk,rfl,ha⟩:=hrel
    have HAll:=Lib.hid ha
    clear ha
    by_cases hlt:k < s.size
    · have hL:k < (L s).length:=by rw [HZ.out]; exact hlt
      have HB:=Lib.hid (tokenByte_any s[k])
      rcases tf (T.tokB ((L s)[k]'hL)) with h | h
      · have HN:=Lib.hid (all_step T.tokB (L s) k hL HAll.out h)
        have hb:T.tokB s[k] = true:=h
        rw [hb] at HB
        clear h hb
        go_wp2_with fail
        refine (HB.out _).mono ?_
        rintro e w' ⟨rfl,rfl⟩
        go_wp2
        go_round
        case rel=>exact ⟨k + 1,by omega,by go_num,HN.out⟩
        case measure=>simp [intOf]; omega
      · have HN:=Lib.hid (token_no (all_no T.tokB (L s) k hL h))
        have hb:T.tokB s[k] = false:=h
        rw [hb] at HB
        clear h hb
        go_wp2_with fail
        refine (HB.out _).mono ?_
        rintro e w' ⟨rfl,rfl⟩
        go_wp2
        go_ret
        exact ⟨ret_bool HN.out.symm,rfl⟩
    · have hks:k = s.size:=by omega
      have ha:=HAll.out
      rw [List.take_of_length_le (by rw [HZ.out]; omega)] at ha
      have hT:=token_yes ha
      rw [HZ.out] at hT
      have HT:=Lib.hid hT
      clear ha hT hks
      go_wp2
      go_ret
      exact ⟨ret_bool (by rw [HT.out]),rfl⟩
end Go.Proofs.YtkempjcphpnocaaGreatDoor
namespace Go.Proofs.YtkempjcphpnocaaGreatDoor
open Go.RowKit
theorem textB_of (c:UInt8):(T.textB c = true ∧ ((c.toNat:Int) == 9) = true ∧ c.toNat < 32) ∨ (T.textB c = false ∧ ((c.toNat:Int) == 9) = false ∧ c.toNat < 32) ∨
    (T.textB c = true ∧ ((c.toNat:Int) == 9) = false ∧ 32 ≤ c.toNat ∧ ((c.toNat:Int) == 127) = false) ∨ (T.textB c = false ∧ ((c.toNat:Int) == 9) = false ∧ 32 ≤ c.toNat ∧ ((c.toNat:Int) == 127) = true):=by
  unfold T.textB
  by_cases h1:c.toNat = 9
  · left; simp [h1]
  · by_cases h2:32 ≤ c.toNat
    · by_cases h3:c.toNat = 127
      · right; right; right
        simp [h3]
      · right; right; left
        refine ⟨by simp [h2,h3],?_,h2,?_⟩
        · simp; omega
        · simp; omega
    · right; left
      refine ⟨by simp [h1]; omega,?_,by omega⟩
      simp; omega
theorem good_no {s:ByteArray} (h:(L s).all T.textB = false):F.good s = false:=by unfold F.good; rw [h]; rfl
theorem good_yes {s:ByteArray} (h:(L s).all T.textB = true):F.good s = ((B (T.trim (L s))).toList == s.toList):=by
  unfold F.good
  rw [h,Bool.true_and,beq_bytes]
  by_cases e:T.trim (L s) = L s
  · rw [decide_eq_true e,decide_eq_true (by rw [e]; exact B_L s)]
  · rw [decide_eq_false e,decide_eq_false (fun h'=>e (by have:=congrArg L h'; exact this))]
set_option maxHeartbeats 400000 in
theorem good_any (s:ByteArray) (w:World) (hs:s.size ≤ 1099511627776):Calls Tryz.prog 151 #[.string s] w (RetB w (F.good s)):=by
  have HZ:Hid ((L s).length = s.size):=(L_size s).symm
  have HTR:=Lib.hid (trim_any s w hs)
  go_enter Tryz.func151,Tryz.ntmps151
  go_wp2
  go_loop [3,4,7] (fun _ _ i=>∃ k:Nat,k ≤ s.size ∧ i = .int .i64 k ∧ ((L s).take k).all T.textB = true) (fun _ _ i=>s.size - (intOf i).toNat)
  case atStart=>exact ⟨0,Nat.zero_le _,rfl,by simp⟩
  case round =>
    obtain ⟨k,hk,rfl,ha⟩:=hrel
    have HAll:=Lib.hid ha
    clear ha
    by_cases hlt:k < s.size
    · have hL:k < (L s).length:=by rw [HZ.out]; exact hlt
      have hcell:s[k] = (L s)[k]'hL:=L_at s k hlt
      have hv:=textB_of ((L s)[k]'hL)
      rw [← hcell] at hv
      rcases hv with ⟨h,g1,g2⟩ | ⟨h,g1,g2⟩ | ⟨h,g1,g2,g3⟩ | ⟨h,g1,g2,g3⟩
      · have g5:((s[k].toNat:Int) != 9) = false:=by rw [bne,g1]; rfl
        have g6:decide ((s[k].toNat:Int) < 32) = true:=by first | (rw [decide_eq_true_eq]; omega) | (rw [decide_eq_false_iff_not]; omega)
        have HN:=Lib.hid (all_step T.textB (L s) k hL HAll.out h)
        clear h hcell
        go_wp2
        go_round
        case rel=>exact ⟨k + 1,by omega,by go_num,HN.out⟩
        case measure=>simp [intOf]; omega
      · have g5:((s[k].toNat:Int) != 9) = true:=by rw [bne,g1]; rfl
        have g6:decide ((s[k].toNat:Int) < 32) = true:=by first | (rw [decide_eq_true_eq]; omega) | (rw [decide_eq_false_iff_not]; omega)
        have n1:¬ (s[k].toNat:Int) = 9:=by simpa using g1
        have n2:(s[k].toNat:Int) < 32:=by omega
        have HN:=Lib.hid (good_no (all_no T.textB (L s) k hL h))
        clear h hcell
        go_wp2
        go_ret
        exact ⟨ret_bool HN.out.symm,Below.refl _ _⟩
      · have g5:((s[k].toNat:Int) != 9) = true:=by rw [bne,g1]; rfl
        have g6:decide ((s[k].toNat:Int) < 32) = false:=by first | (rw [decide_eq_true_eq]; omega) | (rw [decide_eq_false_iff_not]; omega)
        have n1:¬ (s[k].toNat:Int) = 9:=by simpa using g1
        have n2:¬ (s[k].toNat:Int) < 32:=by omega
        have n3:¬ (s[k].toNat:Int) = 127:=by simpa using g3
        have n5:(((s[k].toNat:Int) != 9) && (decide ((s[k].toNat:Int) < 32) || ((s[k].toNat:Int) == 127))) = false:=by rw [g5,g6,g3]; rfl
        have n6:¬ (((s[k].toNat:Int) != 9) = true ∧ ((s[k].toNat:Int) < 32 ∨ ((s[k].toNat:Int) == 127) = true)):=by rw [g3]; rintro ⟨_,h | h⟩ <;> first | exact n2 h | cases h
        have HN:=Lib.hid (all_step T.textB (L s) k hL HAll.out h)
        clear h hcell
        go_wp2
        go_round
        case rel=>exact ⟨k + 1,by omega,by go_num,HN.out⟩
        case measure=>simp [intOf]; omega
      · have g5:((s[k].toNat:Int) != 9) = true:=by rw [bne,g1]; rfl
        have g6:decide ((s[k].toNat:Int) < 32) = false:=by first | (rw [decide_eq_true_eq]; omega) | (rw [decide_eq_false_iff_not]; omega)
        have n1:¬ (s[k].toNat:Int) = 9:=by simpa using g1
        have n2:¬ (s[k].toNat:Int) < 32:=by omega
        have n3:(s[k].toNat:Int) = 127:=by simpa using g3
        have n5:(((s[k].toNat:Int) != 9) && (decide ((s[k].toNat:Int) < 32) || ((s[k].toNat:Int) == 127))) = true:=by rw [g5,g6,g3]; rfl
        have n6:((s[k].toNat:Int) != 9) = true ∧ ((s[k].toNat:Int) < 32 ∨ ((s[k].toNat:Int) == 127) = true):=⟨g5,.inr g3⟩
        have HN:=Lib.hid (good_no (all_no T.textB (L s) k hL h))
        clear h hcell
        go_wp2
        · go_ret
          exact ⟨ret_bool HN.out.symm,Below.refl _ _⟩
        · exfalso
          have hh:((s[k].toNat:Int) != 9) = false ∨ (32:Int) ≤ (s[k].toNat:Int) ∧ ((s[k].toNat:Int) == 127) = false:=by assumption
          rcases hh with h | ⟨_,h⟩
          · rw [g5] at h; cases h
          · rw [g3] at h; cases h
    · have hks:k = s.size:=by omega
      have ha:=HAll.out
      rw [List.take_of_length_le (by rw [HZ.out]; omega)] at ha
      have HT:=Lib.hid (good_yes ha)
      clear ha hks
      go_wp2_with fail
      refine HTR.out.mono ?_
      rintro e w1 ⟨rfl,hb1⟩
      go_wp2
      go_ret
      exact ⟨ret_bool HT.out.symm,hb1⟩
end Go.Proofs.YtkempjcphpnocaaGreatDoor
