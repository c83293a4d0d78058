/- How a message's body ends, as plain functions on its fields. No program here. The walks of frame.length, frame.rule, frame.OfRequest, and of the document's number, rule and OfRequest. Conditions: fields of bulk at most 2^30. The walks of Reply, of the words of a status, of SameBytes and SameResponse. Conditions: the number is of 64 bits; for Itoa the library's table of powers of ten is as its text lays it. The walks of Reply. Conditions: the number is of 64 bits; for Itoa the library's table of powers of ten is as its text lays it. The walks of SameResponse, CopyResponse, SameRequest, CopyRequest, and of the law's alive. Conditions: lists of at most 2^40 elements; the library's table of powers of ten is as its text lays it. The walk of the decoder's readTail. The walks of the decoder's step and of chunk.Decode. The one body that the laws of chunk decode first; what a body's reading answers is within bounds. The walks of CopyResponse and hop.Response. Conditions: a list of bulk at most 2^30, texts of at most 2^30 bytes, a number of 64 bits, the library's table of powers of ten. -/
import Derived.Test.YtkempjcphpnocaaGreatDoorZ02
import Derived.Test.YtkempjcphpnocaaGreatDoorZ16
import Derived.Test.YtkempjcphpnocaaGreatDoorZ00
import Derived.Lib.ItoaLen
import Derived.Test.YtkempjcphpnocaaGreatDoorZ05
import Derived.Deep.DeepCutAuto
import Derived.Deep.RegionHeld3
import Derived.Test.YtkempjcphpnocaaGreatDoorHeadB
import Derived.Test.YtkempjcphpnocaaGreatDoorZ23
namespace Go.Proofs.YtkempjcphpnocaaGreatDoor
namespace F
def teN:ByteArray:=⟨#[84,114,97,110,115,102,101,114,45,69,110,99,111,100,105,110,103]⟩
def clN:ByteArray:=⟨#[67,111,110,116,101,110,116,45,76,101,110,103,116,104]⟩
def chW:ByteArray:=⟨#[99,104,117,110,107,101,100]⟩
def num (s:ByteArray):Int:=if s.size ≤ 18 then (match Lib.decNat (L s) with | some v=>(v:Int) | none=>-1) else -1
theorem dig_val (c:UInt8):P.dig c = true ↔ ∃ d,Lib.digitVal c = some d:=by
  unfold P.dig Lib.digitVal
  rw [Bool.and_eq_true,decide_eq_true_eq,decide_eq_true_eq]
  constructor
  · intro h; exact ⟨_,if_pos h⟩
  · rintro ⟨d,h⟩
    split at h
    · rename_i h1; exact h1
    · cases h
def els (vs:List ByteArray):List ByteArray:=vs.flatMap list
def lensB (l:List ByteArray):Bool:=l.any fun y=>decide (num y < 0 ∨ num y ≠ num (l.headD ⟨#[]⟩))
def lens (l:List ByteArray):Int × Int:=if l = [] ∨ lensB l = true then (0,60) else if 65536 < num (l.headD ⟨#[]⟩) then (0,71) else (num (l.headD ⟨#[]⟩),0)
def Seen (D:List ByteArray) (z:Int):Prop:=(D = [] ∧ z = -1) ∨ (D ≠ [] ∧ 0 ≤ z ∧ ∀ x ∈ D,num x = z)
theorem Seen.head {D r:List ByteArray} {z:Int} (h:Seen D z) (h0:0 ≤ z):num ((D ++ r).headD ⟨#[]⟩) = z:=by
  rcases h with ⟨rfl,h⟩ | ⟨h1,_,h2⟩
  · omega
  · cases D with
    | nil=>exact absurd rfl h1
    | cons x t=>exact h2 x (by simp)
theorem Seen.next {D:List ByteArray} {x:ByteArray} {z:Int} (hs:Seen D z) (h:0 ≤ num x) (he:0 ≤ z → z = num x):Seen (D ++ [x]) (num x):=by
  refine .inr ⟨by simp,h,fun y hy=>?_⟩
  rcases List.mem_append.1 hy with hy | hy
  · rcases hs with ⟨rfl,_⟩ | ⟨_,h0,h2⟩
    · cases hy
    · rw [h2 y hy,he h0]
  · simp only [List.mem_cons,List.mem_nil_iff,or_false] at hy
    rw [hy]
theorem Seen.le {D:List ByteArray} {z:Int} (h:Seen D z):-1 ≤ z:=by
  rcases h with ⟨_,h⟩ | ⟨_,h,_⟩ <;> omega
structure FR where
  k:Int
  n:Int
  e:Int
def frame (m:Int) (fs:List FD) (other:Int):FR :=
  if values fs teN ≠ [] ∧ values fs clN ≠ [] then ⟨0,0,61⟩
  else if values fs teN ≠ [] then (if m = 0 ∨ tokens fs teN ≠ [chW] then ⟨0,0,62⟩ else ⟨2,0,0⟩)
  else if values fs clN = [] then ⟨other,0,0⟩
  else if (lens (els (values fs clN))).2 ≠ 0 then ⟨0,0,(lens (els (values fs clN))).2⟩
  else ⟨1,(lens (els (values fs clN))).1,0⟩
end F
end Go.Proofs.YtkempjcphpnocaaGreatDoor
namespace Go.Proofs.YtkempjcphpnocaaGreatDoor
open Go.RowKit
set_option maxHeartbeats 400000 in
theorem sameBytes_any (A B:Option Addr) (n m c d:Nat) (xs ys:List UInt8) (w:World) (hn:n ≤ 1099511627776) (hm:m ≤ 1099511627776) (hx:Rd w A n 1 (bcells xs)) (hy:Rd w B m 1 (bcells ys)) (hxl:xs.length = n) (hyl:ys.length = m) :
    Calls Tryz.prog 52 #[.slice A n c,.slice B m d] w (RetB w (decide (xs = ys))):=by
  have HX:=Lib.hid hxl
  have HY:=Lib.hid hyl
  clear hxl hyl
  by_cases hnm:n = m
  · subst hnm
    go_enter Tryz.func52,Tryz.ntmps52
    go_wp2
    go_loopw [5] (fun i wr=>∃ k:Nat,k ≤ n ∧ i = .int .i64 k ∧ xs.take k = ys.take k ∧ ∃ q,wr = w.drewN q) (fun i _=>n - (intOf i).toNat)
    case atStart=>exact ⟨0,Nat.zero_le _,rfl,rfl,0,rfl⟩
    case round =>
      obtain ⟨k,hk,rfl,he,q,rfl⟩:=hrel
      have HE:=Lib.hid he; clear he
      by_cases hlt:k < n
      · obtain ⟨b1,o1,rfl,hl1,c1⟩:=hx.byte hlt HX.out
        obtain ⟨b2,o2,rfl,hl2,d1⟩:=hy.byte hlt HY.out
        have hsnoc:∀ h:xs[k]'(by have:=HX.out; omega) = ys[k]'(by have:=HY.out; omega),xs.take (k + 1) = ys.take (k + 1):=fun h=>take_eq_snoc _ _ HE.out h
        have hne:∀ h:¬ xs[k]'(by have:=HX.out; omega) = ys[k]'(by have:=HY.out; omega),¬ xs = ys:=fun h e=>h (by subst e; rfl)
        obtain ⟨x,hx1⟩:∃ x,x = xs[k]'(by have:=HX.out; omega):=⟨_,rfl⟩
        obtain ⟨y,hy1⟩:∃ y,y = ys[k]'(by have:=HY.out; omega):=⟨_,rfl⟩
        rw [← hx1] at c1 hsnoc hne
        rw [← hy1] at d1 hsnoc hne
        have HS:=Lib.hid hsnoc
        have HN:=Lib.hid hne
        clear hx1 hy1 hsnoc hne
        by_cases hd:x = y
        · have hb:((x.toNat:Int) != (y.toNat:Int)) = false:=by rw [hd]; simp
          have hyes:=HS.out hd
          have HYS:=Lib.hid hyes
          clear hyes hd
          go_wp2
          go_region
          go_wp2
          go_roundw
          case rel=>exact ⟨k + 1,by omega,by go_num,HYS.out,_,rfl⟩
          case measure=>simp [intOf]; omega
        · have hb:((x.toNat:Int) != (y.toNat:Int)) = true:=by
            rw [bne_iff_ne]; intro e; exact hd (UInt8.toNat_inj.1 (by omega))
          have hno:=decide_eq_false (HN.out hd)
          have HNO:=Lib.hid hno
          clear hno hd
          go_wp2
          go_region
          go_wp2
          go_ret
          exact ⟨ret_bool HNO.out.symm,below_drewN (Below.refl _ _) _⟩
      · have hfin:xs = ys:=by
          have:=HE.out
          have h1:=HX.out
          have h2:=HY.out
          rw [List.take_of_length_le (by omega),List.take_of_length_le (by omega)] at this
          exact this
        have HF:=Lib.hid hfin
        clear hfin
        go_wp2
        go_ret
        exact ⟨ret_bool (by rw [decide_eq_true HF.out]),below_drewN (Below.refl _ _) _⟩
  · have h1:((n:Int) == (m:Int)) = false:=by simp; omega
    have h2:((n:Int) != (m:Int)) = true:=by simp; omega
    go_enter Tryz.func52,Tryz.ntmps52
    go_wp2
    go_ret
    exact ⟨ret_bool (by have:=HX.out; have:=HY.out; symm; apply decide_eq_false; rintro rfl; omega),Below.refl _ _⟩
def words:List (Int × ByteArray):=[(400,⟨#[66,97,100,32,82,101,113,117,101,115,116]⟩),(403,⟨#[70,111,114,98,105,100,100,101,110]⟩),(404,⟨#[78,111,116,32,70,111,117,110,100]⟩),(413,⟨#[67,111,110,116,101,110,116,32,84,111,111,32,76,97,114,103,101]⟩),(431,⟨#[82,101,113,117,101,115,116,32,72,101,97,100,101,114,32,70,105,101,108,100,115,32,84,111,111,32,76,97,114,103,101]⟩),(501,⟨#[78,111,116,32,73,109,112,108,101,109,101,110,116,101,100]⟩),(502,⟨#[66,97,100,32,71,97,116,101,119,97,121]⟩),(504,⟨#[71,97,116,101,119,97,121,32,84,105,109,101,111,117,116]⟩),(505,⟨#[72,84,84,80,32,86,101,114,115,105,111,110,32,78,111,116,32,83,117,112,112,111,114,116,101,100]⟩)]
def wordOf (s:Int):List (Int × ByteArray) → ByteArray
  | []=>⟨#[69,114,114,111,114]⟩
  | x :: l=>if x.1 = s then x.2 else wordOf s l
def word (s:Int):ByteArray:=wordOf s words
end Go.Proofs.YtkempjcphpnocaaGreatDoor
namespace Go.Proofs.YtkempjcphpnocaaGreatDoor
open Go.RowKit
def plainF:FD:=(⟨#[67,111,110,116,101,110,116,45,84,121,112,101]⟩,⟨#[116,101,120,116,47,112,108,97,105,110]⟩)
def at_ (w:World) (p:Addr):Value:=(w.cell? p).getD undef
theorem at_of {w:World} {p:Addr} {v:Value} (h:w.cell? p = some v):w.cell? p = some (at_ w p):=by
  unfold at_; rw [h]; rfl
theorem newFree {w w1:World} {cs:Array Value} {t:TypeId} (hb:Below (w.alloc (.cells cs t)).heap.size (w.alloc (.cells cs t)) w1) (i:Nat):w1.frozen? ⟨w.heap.size,i,none⟩ = false:=by
  rw [hb.frozen (p:=⟨w.heap.size,i,none⟩) (by simp)]
  unfold World.frozen?; rw [heap_alloc_new]; simp
def Four (w:World) (b:Nat):Prop:=(w.cell? ⟨b,0,none⟩ = some (at_ w ⟨b,0,none⟩) ∧ w.frozen? ⟨b,0,none⟩ = false) ∧ (w.cell? ⟨b,1,none⟩ = some (at_ w ⟨b,1,none⟩) ∧ w.frozen? ⟨b,1,none⟩ = false) ∧ (w.cell? ⟨b,2,none⟩ = some (at_ w ⟨b,2,none⟩) ∧ w.frozen? ⟨b,2,none⟩ = false) ∧ (w.cell? ⟨b,3,none⟩ = some (at_ w ⟨b,3,none⟩) ∧ w.frozen? ⟨b,3,none⟩ = false)
def Four4 (w:World) (b:Nat) (x0 x1 x2 x3:Value):Prop:=w.cell? ⟨b,0,none⟩ = some x0 ∧ w.cell? ⟨b,1,none⟩ = some x1 ∧ w.cell? ⟨b,2,none⟩ = some x2 ∧ w.cell? ⟨b,3,none⟩ = some x3
theorem Four.below {w w1:World} {b:Nat} (h:Four w b) (hb:Below w.heap.size w w1):Four w1 b:=by
  obtain ⟨⟨a0,f0⟩,⟨a1,f1⟩,⟨a2,f2⟩,⟨a3,f3⟩⟩:=h
  have lt:=World.block_lt_of_cell? w _ a0
  exact ⟨⟨at_of ((hb.cell (p:=⟨b,0,none⟩) lt).trans a0),(hb.frozen (p:=⟨b,0,none⟩) lt).trans f0⟩,⟨at_of ((hb.cell (p:=⟨b,1,none⟩) lt).trans a1),(hb.frozen (p:=⟨b,1,none⟩) lt).trans f1⟩,⟨at_of ((hb.cell (p:=⟨b,2,none⟩) lt).trans a2),(hb.frozen (p:=⟨b,2,none⟩) lt).trans f2⟩,⟨at_of ((hb.cell (p:=⟨b,3,none⟩) lt).trans a3),(hb.frozen (p:=⟨b,3,none⟩) lt).trans f3⟩⟩
theorem Four4.below {w w1:World} {b:Nat} {x0 x1 x2 x3:Value} (h:Four4 w b x0 x1 x2 x3) (hb:Below w.heap.size w w1):Four4 w1 b x0 x1 x2 x3:=by
  obtain ⟨a0,a1,a2,a3⟩:=h
  have lt:=World.block_lt_of_cell? w _ a0
  exact ⟨(hb.cell (p:=⟨b,0,none⟩) lt).trans a0,(hb.cell (p:=⟨b,1,none⟩) lt).trans a1,(hb.cell (p:=⟨b,2,none⟩) lt).trans a2,(hb.cell (p:=⟨b,3,none⟩) lt).trans a3⟩
theorem Four4.four {w:World} {b:Nat} {x0 x1 x2 x3:Value} (h:Four4 w b x0 x1 x2 x3) (h0:∀ i,w.frozen? ⟨b,i,none⟩ = false):Four w b :=
  ⟨⟨at_of h.1,h0 0⟩,⟨at_of h.2.1,h0 1⟩,⟨at_of h.2.2.1,h0 2⟩,⟨at_of h.2.2.2,h0 3⟩⟩
theorem newFour {w:World} (x0 x1 x2 x3:Value) (t:TypeId):Four4 (w.alloc (.cells #[x0,x1,x2,x3] t)) w.heap.size x0 x1 x2 x3:=by
  refine ⟨?_,?_,?_,?_⟩ <;> simp
theorem newFour_free {w:World} (cs:Array Value) (t:TypeId) (i:Nat):(w.alloc (.cells cs t)).frozen? ⟨w.heap.size,i,none⟩ = false:=by
  unfold World.frozen?; rw [heap_alloc_new]; simp
def HeldR (w:World) (b b4:Nat) (x0 x1 x2 x3:Value) (A:Option Addr) (w':World):Prop :=
  Four4 w' b4 x0 x1 x2 x3 ∧ Four w' b ∧ (TabOk w' ∧ Rd w' A 1 2 (fcells [plainF]) ∧ Below w.heap.size w w')
theorem HeldR.below {w:World} {b b4:Nat} {x0 x1 x2 x3:Value} {A:Option Addr} {u v:World} (h:HeldR w b b4 x0 x1 x2 x3 A u) (hb:Below u.heap.size u v):HeldR w b b4 x0 x1 x2 x3 A v :=
  ⟨Four4.below h.1 hb,Four.below h.2.1 hb,h.2.2.1.below hb,h.2.2.2.1.below hb,below_then h.2.2.2.2.size h.2.2.2.2 hb⟩
theorem HeldR.drew {w:World} {b b4:Nat} {x0 x1 x2 x3:Value} {A:Option Addr} {u:World} (h:HeldR w b b4 x0 x1 x2 x3 A u):HeldR w b b4 x0 x1 x2 x3 A u.drew:=h.below (Below.refl _ _).drew
theorem Four.set4 {u:World} {b:Nat} (h:Four u b) (x0 x1 x2 x3:Value):Four4 ((((u.setCell ⟨b,0,none⟩ x0).setCell ⟨b,1,none⟩ x1).setCell ⟨b,2,none⟩ x2).setCell ⟨b,3,none⟩ x3) b x0 x1 x2 x3:=by
  obtain ⟨⟨a0,f0⟩,⟨a1,f1⟩,⟨a2,f2⟩,⟨a3,f3⟩⟩:=h
  have o:∀ (w:World) (i j:Nat) (v:Value),i ≠ j → (w.setCell ⟨b,i,none⟩ v).cell? ⟨b,j,none⟩ = w.cell? ⟨b,j,none⟩:=fun w i j v h=>World.cell?_setCell_other _ _ _ _ (fun e=>h (by injection e))
  refine ⟨?_,?_,?_,?_⟩
  · rw [o _ _ _ _ (by decide),o _ _ _ _ (by decide),o _ _ _ _ (by decide)]
    exact World.cell?_setCell_same _ _ _ a0
  · rw [o _ _ _ _ (by decide),o _ _ _ _ (by decide)]
    exact World.cell?_setCell_same _ _ _ (u:=at_ u ⟨b,1,none⟩) (by rw [o _ _ _ _ (by decide)]; exact a1)
  · rw [o _ _ _ _ (by decide)]
    exact World.cell?_setCell_same _ _ _ (u:=at_ u ⟨b,2,none⟩) (by rw [o _ _ _ _ (by decide),o _ _ _ _ (by decide)]; exact a2)
  · exact World.cell?_setCell_same _ _ _ (u:=at_ u ⟨b,3,none⟩) (by rw [o _ _ _ _ (by decide),o _ _ _ _ (by decide),o _ _ _ _ (by decide)]; exact a3)
theorem Four.set4_four {u:World} {b:Nat} (h:Four u b) (x0 x1 x2 x3:Value):Four ((((u.setCell ⟨b,0,none⟩ x0).setCell ⟨b,1,none⟩ x1).setCell ⟨b,2,none⟩ x2).setCell ⟨b,3,none⟩ x3) b:=by
  obtain ⟨h0,h1,h2,h3⟩:=h.set4 x0 x1 x2 x3
  obtain ⟨⟨a0,f0⟩,⟨a1,f1⟩,⟨a2,f2⟩,⟨a3,f3⟩⟩:=h
  refine ⟨⟨at_of h0,?_⟩,⟨at_of h1,?_⟩,⟨at_of h2,?_⟩,⟨at_of h3,?_⟩⟩ <;> simp [*]
theorem Four4.far {u:World} {b b':Nat} {y0 y1 y2 y3:Value} (h:Four4 u b' y0 y1 y2 y3) (hne:b' ≠ b) (i:Nat) (x:Value):Four4 (u.setCell ⟨b,i,none⟩ x) b' y0 y1 y2 y3:=by
  obtain ⟨a0,a1,a2,a3⟩:=h
  refine ⟨?_,?_,?_,?_⟩ <;> rw [World.cell?_setCell_far _ _ _ _ (fun e=>hne e.symm)] <;> assumption
theorem Rd.far {u:World} {B:Option Addr} {n size:Nat} {xs:List Value} (h:Rd u B n size xs) (b:Nat) (hne:0 < n → ∀ p,B = some p → p.block ≠ b) (i:Nat) (x:Value):Rd (u.setCell ⟨b,i,none⟩ x) B n size xs :=
  ⟨h.1,fun hn=>by
    obtain ⟨c,o,rfl,hlt,hc⟩:=h.2 hn
    refine ⟨c,o,rfl,by simpa using hlt,fun j v hv=>?_⟩
    rw [World.cell?_setCell_far _ _ _ _ (fun e=>hne hn _ rfl e.symm)]
    exact hc j v hv⟩
theorem Rd.set4 {u:World} {B:Option Addr} {n size:Nat} {xs:List Value} (h:Rd u B n size xs) (b:Nat) (hne:0 < n → ∀ p,B = some p → p.block ≠ b) (x0 x1 x2 x3:Value):Rd ((((u.setCell ⟨b,0,none⟩ x0).setCell ⟨b,1,none⟩ x1).setCell ⟨b,2,none⟩ x2).setCell ⟨b,3,none⟩ x3) B n size xs :=
  (((h.far b hne _ _).far b hne _ _).far b hne _ _).far b hne _ _
theorem Four.lt {u:World} {b:Nat} (h:Four u b):b < u.heap.size:=World.block_lt_of_cell? u _ h.1.1
theorem HeldR.set4 {w:World} {b b4:Nat} {x0 x1 x2 x3:Value} {A:Option Addr} {u:World} (h:HeldR w b b4 x0 x1 x2 x3 A u) (hb:w.heap.size ≤ b) (hne:b4 ≠ b) (hA:∀ p,A = some p → p.block ≠ b) (ht:TabOk w) (y0 y1 y2 y3:Value) :
    HeldR w b b4 x0 x1 x2 x3 A ((((u.setCell ⟨b,0,none⟩ y0).setCell ⟨b,1,none⟩ y1).setCell ⟨b,2,none⟩ y2).setCell ⟨b,3,none⟩ y3):=by
  have hB:Below w.heap.size w ((((u.setCell ⟨b,0,none⟩ y0).setCell ⟨b,1,none⟩ y1).setCell ⟨b,2,none⟩ y2).setCell ⟨b,3,none⟩ y3) :=
    (((h.2.2.2.2.setCell (p:=⟨b,0,none⟩) hb _).setCell (p:=⟨b,1,none⟩) hb _).setCell (p:=⟨b,2,none⟩) hb _).setCell (p:=⟨b,3,none⟩) hb _
  have h4:Four4 u b4 x0 x1 x2 x3:=h.1
  exact ⟨(((h4.far hne _ _).far hne _ _).far hne _ _).far hne _ _,h.2.1.set4_four _ _ _ _,ht.below hB,h.2.2.2.1.set4 b (fun _=>hA) _ _ _ _,hB⟩
end Go.Proofs.YtkempjcphpnocaaGreatDoor
namespace Go.Proofs.YtkempjcphpnocaaGreatDoor
open Go.RowKit
set_option maxHeartbeats 400000 in
theorem sameResponse_any (s1 m1 s2 m2:Int) (r1 r2:ByteArray) (A B:Option Addr) (n m c d:Nat) (xs ys:List FD) (w:World) (hn:n ≤ 1099511627776) (hm:m ≤ 1099511627776) (hx:Rd w A n 2 (fcells xs)) (hy:Rd w B m 2 (fcells ys)) (hxl:xs.length = n) (hyl:ys.length = m) :
    Calls Tryz.prog 51 #[.agg #[.int .i64 s1,.string r1,.int .i64 m1,.slice A n c],.agg #[.int .i64 s2,.string r2,.int .i64 m2,.slice B m d]] w (RetB w (decide (s1 = s2) && decide (r1 = r2) && decide (m1 = m2) && decide (xs = ys))):=by
  have HS:=Lib.hid (fun w' (hb:Below w.heap.size w w')=>sameFields_any A B n m c d xs ys w' hn hm (hx.below hb) (hy.below hb) hxl hyl)
  obtain ⟨b4,hb4⟩:∃ b4,b4 = decide (xs = ys):=⟨_,rfl⟩
  rw [← hb4] at HS ⊢
  clear hx hy hxl hyl hb4 hn hm
  rcases tf (decide (s1 = s2)) with h1 | h1
  · have e1:(s1 == s2) = true:=by rw [of_decide_eq_true h1]; simp
    rw [h1]
    clear h1
    rcases tf (decide (r1 = r2)) with h2 | h2
    · have e2:(r1.toList == r2.toList) = true:=by rw [beq_bytes,h2]
      rw [h2]
      clear h2
      rcases tf (decide (m1 = m2)) with h3 | h3
      · have e3:(m1 == m2) = true:=by rw [of_decide_eq_true h3]; simp
        rw [h3]
        clear h3
        go_enter Tryz.func51,Tryz.ntmps51
        go_wp2_with fail
        refine (HS.out _ (((Below.refl _ _).alloc (Nat.le_refl _) _).alloc (by rw [World.size_alloc]; omega) _)).mono ?_
        rintro e w1 ⟨rfl,hb1⟩
        go_wp2
        go_ret
        exact ⟨ret_bool (by simp),below_then (by simp; omega) (((Below.refl _ _).alloc (Nat.le_refl _) _).alloc (by rw [World.size_alloc]; omega) _) hb1⟩
      · have e3:(m1 == m2) = false:=by simpa using of_decide_eq_false h3
        rw [h3]
        clear h3
        go_enter Tryz.func51,Tryz.ntmps51
        go_wp2
        go_ret
        exact ⟨ret_bool (by simp),(((Below.refl _ _).alloc (Nat.le_refl _) _).alloc (by rw [World.size_alloc]; omega) _)⟩
    · have e2:(r1.toList == r2.toList) = false:=by rw [beq_bytes,h2]
      rw [h2]
      clear h2
      go_enter Tryz.func51,Tryz.ntmps51
      go_wp2
      go_ret
      exact ⟨ret_bool (by simp),(((Below.refl _ _).alloc (Nat.le_refl _) _).alloc (by rw [World.size_alloc]; omega) _)⟩
  · have e1:(s1 == s2) = false:=by simpa using of_decide_eq_false h1
    rw [h1]
    clear h1
    go_enter Tryz.func51,Tryz.ntmps51
    go_wp2
    go_ret
    exact ⟨ret_bool (by simp),(((Below.refl _ _).alloc (Nat.le_refl _) _).alloc (by rw [World.size_alloc]; omega) _)⟩
end Go.Proofs.YtkempjcphpnocaaGreatDoor
namespace Go.Proofs.YtkempjcphpnocaaGreatDoor
open Go.RowKit
def TvRow (w u:World) (fs:List FD) (tv:Value):Prop:=∃ TA tc,tv = .slice TA fs.length tc ∧ Row u (w.heap.size + 1) 167 2 TA fs.length tc (fcells fs)
theorem TvRow.nil (w u:World):TvRow w u [] (.slice none 0 0):=⟨none,0,rfl,Row.none_ _ _ _ _⟩
end Go.Proofs.YtkempjcphpnocaaGreatDoor
namespace Go.Proofs.YtkempjcphpnocaaGreatDoor
open Go.RowKit
namespace C
def fin (data:List UInt8) (a:Nat) (l:List UInt8):CD:=if tailE l ≠ 0 ∨ tailN l = 0 then .bad (tailE l) else ⟨data,tailF l,a + tailN l,0⟩
def dat (data:List UInt8) (z a:Nat) (l:List UInt8):CD:=if l.length < z + 2 then .bad 0 else if P.crlf.isPrefixOf (l.drop z) = false then .bad 70 else dec (data ++ l.take z) (a + z + 2) (l.drop (z + 2))
end C
def RetCD (w:World) (r:C.CD) (e:Ending) (w':World):Prop :=
  ∃ A c TA tc,e = .returned (.tuple #[.slice A r.d.length c,.slice TA r.f.length tc,.int .i64 r.n,.int .i64 r.e]) ∧ Row w' w.heap.size 5 1 A r.d.length c (bcells r.d) ∧ Row w' w.heap.size 167 2 TA r.f.length tc (fcells r.f) ∧ Below w.heap.size w w'
theorem RetCD.bad {w w':World} {r:C.CD} {code:Int} (hb:Below w.heap.size w w') (h:r = .bad code):RetCD w r (.returned (.tuple #[.slice none 0 0,.slice none 0 0,.int .i64 0,.int .i64 code])) w':=by
  subst h
  exact ⟨none,0,none,0,rfl,Row.none_ _ _ _ _,Row.none_ _ _ _ _,hb⟩
end Go.Proofs.YtkempjcphpnocaaGreatDoor
namespace Go.Proofs.YtkempjcphpnocaaGreatDoor
open Go.RowKit
def onNormal (Q:Act → World → Prop):Exit → Act → World → Prop
  | .normal,a,w=>Q a w
  | _,_,_=>False
theorem onNormal.imp {Q:Act → World → Prop} {Q':Exit → Act → World → Prop} (h:∀ a w,Q a w → Q' .normal a w):∀ (e:Exit) (a:Act) (w:World),onNormal Q e a w → Q' e a w:=fun e a w hq=>by
  cases e <;> first | exact h a w hq | exact (hq:False).elim
def RetR (w:World) (s:Int) (r:ByteArray) (m:Int) (xs:List FD) (e:Ending) (w':World):Prop :=
  ∃ A c,e = .returned (.agg #[.int .i64 s,.string r,.int .i64 m,.slice A xs.length c]) ∧ Row w' w.heap.size 167 2 A xs.length c (fcells xs) ∧ Below w.heap.size w w'
theorem Row.far {w:World} {base:Nat} {e:TypeId} {size:Nat} {A:Option Addr} {n c:Nat} {xs:List Value} (h:Row w base e size A n c xs) {b i:Nat} (hb:b < base) (v:Value):Row (w.setCell ⟨b,i,none⟩ v) base e size A n c xs:=by
  rcases h with ⟨h1,h2⟩ | h
  · refine .inl ⟨h1,?_⟩
    rcases h2 with h2 | ⟨g,cap,cur,hv,hg,hh,r⟩
    · exact .inl h2
    · refine .inr ⟨g,cap,cur,hv,hg,?_,r⟩
      rw [← hh]
      unfold World.setCell
      simp only [Array.getElem?_modify]
      rw [if_neg (by omega)]
  · exact .inr h
theorem Four.far {u:World} {b b':Nat} (h:Four u b') (hne:b' ≠ b) (i:Nat) (x:Value):Four (u.setCell ⟨b,i,none⟩ x) b':=by
  obtain ⟨⟨a0,f0⟩,⟨a1,f1⟩,⟨a2,f2⟩,⟨a3,f3⟩⟩:=h
  have o:∀ j,(u.setCell ⟨b,i,none⟩ x).cell? ⟨b',j,none⟩ = u.cell? ⟨b',j,none⟩:=fun j=>World.cell?_setCell_far _ _ _ _ (fun e=>hne e.symm)
  have f:∀ j,(u.setCell ⟨b,i,none⟩ x).frozen? ⟨b',j,none⟩ = u.frozen? ⟨b',j,none⟩:=fun j=>World.frozen?_setCell _ _ _ _
  exact ⟨⟨at_of ((o 0).trans a0),(f 0).trans f0⟩,⟨at_of ((o 1).trans a1),(f 1).trans f1⟩,⟨at_of ((o 2).trans a2),(f 2).trans f2⟩,⟨at_of ((o 3).trans a3),(f 3).trans f3⟩⟩
theorem Row.set4 {w:World} {base:Nat} {e:TypeId} {size:Nat} {A:Option Addr} {n c:Nat} {xs:List Value} (h:Row w base e size A n c xs) {b:Nat} (hb:b < base) (y0 y1 y2 y3:Value):Row ((((w.setCell ⟨b,0,none⟩ y0).setCell ⟨b,1,none⟩ y1).setCell ⟨b,2,none⟩ y2).setCell ⟨b,3,none⟩ y3) base e size A n c xs :=
  (((h.far hb _).far hb _).far hb _).far hb _
theorem below_set4 {B:Nat} {w u:World} (h:Below B w u) {b:Nat} (hb:B ≤ b) (y0 y1 y2 y3:Value):Below B w ((((u.setCell ⟨b,0,none⟩ y0).setCell ⟨b,1,none⟩ y1).setCell ⟨b,2,none⟩ y2).setCell ⟨b,3,none⟩ y3) :=
  (((h.setCell (p:=⟨b,0,none⟩) hb _).setCell (p:=⟨b,1,none⟩) hb _).setCell (p:=⟨b,2,none⟩) hb _).setCell (p:=⟨b,3,none⟩) hb _
set_option maxHeartbeats 400000 in
theorem copyResponse_any (s m:Int) (r:ByteArray) (A:Option Addr) (n c:Nat) (fs:List FD) (w:World) (hl:fs.length = n) (hn:n ≤ 1099511627776) (hx:Rd w A n 2 (fcells fs)) :
    Calls Tryz.prog 44 #[.agg #[.int .i64 s,.string r,.int .i64 m,.slice A n c]] w (RetR w s r m fs):=by
  have HC:=Lib.hid (fun (w1:World) (hb:Below w.heap.size w w1)=>copyFields_any A n c fs w1 hn (hx.below hb))
  subst hl
  clear hx hn
  go_enter Tryz.func44,Tryz.ntmps44
  go_wp2_with fail
  refine (HC.out _ (((Below.refl _ _).alloc (Nat.le_refl _) _).alloc (by rw [World.size_alloc]; omega) _)).mono ?_
  rintro e w1 ⟨A1,c1,rfl,hr1,hb1⟩
  obtain ⟨x0,x1,x2,x3⟩:=((newFour (w:=w) (.int .i64 s) (.string r) (.int .i64 m) (.slice A fs.length c) 25).below ((Below.refl _ _).alloc (Nat.le_refl _) _)).below hb1
  have y4:=(newFour (w:=w.alloc (.cells #[.int .i64 s,.string r,.int .i64 m,.slice A fs.length c] 25)) (.int .i64 0) (.string ⟨#[]⟩) (.int .i64 0) (.slice none 0 0) 25).below hb1
  have g4:∀ i,w1.frozen? ⟨w.heap.size + 1,i,none⟩ = false:=fun i=>by
    have:=newFree hb1 i
    rwa [World.size_alloc] at this
  have k4:w1.frozen? ⟨w.heap.size,3,none⟩ = false:=by
    rw [hb1.frozen (p:=⟨w.heap.size,3,none⟩) (by simp only [World.size_alloc]; omega)]
    rw [frozen?_alloc_cells]
    exact newFour_free _ _ _
  rw [World.size_alloc] at y4
  obtain ⟨y0,y1,y2,y3⟩:=y4
  have g0:=g4 0
  have g1:=g4 1
  have g2:=g4 2
  have g3:=g4 3
  have HG4:=Lib.hid g4
  have HY4:=Lib.hid (show Four w1 (w.heap.size + 1) from ⟨⟨at_of y0,g0⟩,⟨at_of y1,g1⟩,⟨at_of y2,g2⟩,⟨at_of y3,g3⟩⟩)
  have hB:=below_then (b:=(w.alloc (.cells #[.int .i64 s,.string r,.int .i64 m,.slice A fs.length c] 25)).alloc (.cells #[.int .i64 0,.string ⟨#[]⟩,.int .i64 0,.slice none 0 0] 25)) (by simp only [World.size_alloc]; omega) (((Below.refl _ _).alloc (Nat.le_refl _) _).alloc (by rw [World.size_alloc]; omega) _) hb1
  have HB:=Lib.hid hB
  have HR:=Lib.hid hr1
  clear hB hb1 hr1 g4 HC
  go_wp2
  have hfour:=(HY4.out.far (b:=w.heap.size) (by omega) 3 (.slice A1 fs.length c1)).set4 (.int .i64 s) (.string r) (.int .i64 m) (.slice A1 fs.length c1)
  have hrow:=(HR.out.far (b:=w.heap.size) (i:=3) (by simp only [World.size_alloc]; omega) (.slice A1 fs.length c1)).set4 (b:=w.heap.size + 1) (by simp only [World.size_alloc]; omega) (.int .i64 s) (.string r) (.int .i64 m) (.slice A1 fs.length c1)
  have hbel:=below_set4 (HB.out.setCell (p:=⟨w.heap.size,3,none⟩) (Nat.le_refl _) (.slice A1 fs.length c1)) (b:=w.heap.size + 1) (by omega) (.int .i64 s) (.string r) (.int .i64 m) (.slice A1 fs.length c1)
  clear x0 x1 x2 x3 y0 y1 y2 y3 g0 g1 g2 g3 k4 HY4 HR HB
  generalize (((((w1.setCell ⟨w.heap.size,3,none⟩ (.slice A1 fs.length c1)).setCell ⟨w.heap.size + 1,0,none⟩ (.int .i64 s)).setCell ⟨w.heap.size + 1,1,none⟩ (.string r)).setCell ⟨w.heap.size + 1,2,none⟩ (.int .i64 m)).setCell ⟨w.heap.size + 1,3,none⟩ (.slice A1 fs.length c1)) = U at *
  obtain ⟨d0,d1,d2,d3⟩:=hfour
  refine bodyPost_ret (v:=.agg #[.int .i64 s,.string r,.int .i64 m,.slice A1 fs.length c1]) (by simp [results,Tryz.results44,go_sem,d0,d1,d2,d3]) rfl ?_
  exact ⟨A1,c1,rfl,hrow.mono (by simp only [World.size_alloc]; omega),hbel⟩
def HoldR (w:World) (b:Nat) (x0 x1 x2 x3:Value) (u:World):Prop:=Four4 u b x0 x1 x2 x3 ∧ Four u b ∧ Four u (b + 1) ∧ Below w.heap.size w u
theorem HoldR.below {w:World} {b:Nat} {x0 x1 x2 x3:Value} {u v:World} (h:HoldR w b x0 x1 x2 x3 u) (hb:Below u.heap.size u v):HoldR w b x0 x1 x2 x3 v :=
  ⟨h.1.below hb,h.2.1.below hb,h.2.2.1.below hb,below_then h.2.2.2.size h.2.2.2 hb⟩
end Go.Proofs.YtkempjcphpnocaaGreatDoor
