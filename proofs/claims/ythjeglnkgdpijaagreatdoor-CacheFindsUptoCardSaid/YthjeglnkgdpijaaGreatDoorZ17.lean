/- The walks of utf8.decodeRuneSlow and utf8.DecodeRune at a first byte above 127, in a row of bytes. The walks of fields.Values and its document's twin. The walks of the document's List; of fields.Tokens and its twin; of the document's Values. What Get and Via compute; bounds by the bulk of the fields. What is stripped is stripped again as it is; a Via that was put is got. What is sent to an origin: its fields, and that they are clean. What head.PrintRequest, PrintResponse and fields.Print compute. What Bytes answers, in plain Lean. What head.Request and fields.Parse compute, as plain functions on lists of bytes. The walks of tok.tokenByte, Token, head.visible, fields.good and of their twins in the document. The walks of the document's Byte, Token, Text, Value and visible, and of fields.good. Conditions: as each theorem states them. -/
import Derived.Test.YthjeglnkgdpijaaGreatDoorZ33
import Derived.Lib.ItoaLen
set_option maxHeartbeats 4000000
set_option maxRecDepth 1000000
namespace Go.Proofs.YthjeglnkgdpijaaGreatDoor
open Go.RowKit Go.Lib
theorem wE (b o n c:Nat) (x0 x1 x2 x3:Nat) (w:World) (hn:1≤n) (hnm:n≤1099511627776) (l0:x0 < 256) (l1:x1 < 256) (l2:x2 < 256) (l3:x3 < 256) (hb0:128≤x0)
  (k0:w.cell? ⟨b,o,none⟩=some (.int .u8 x0)) (k1:1 < n→w.cell? ⟨b,o+1,none⟩=some (.int .u8 x1)) (k2:2 < n→w.cell? ⟨b,o+2,none⟩=some (.int .u8 x2)) (k3:3 < n→w.cell? ⟨b,o+3,none⟩=some (.int .u8 x3)) (hT:Lib.Utf8Tabs 1 2 w) :
  Calls Tryz.prog 253 #[.slice (some ⟨b,o,none⟩) n c] w fun e w'=>e=.returned (.tuple #[.int .i32 (decodeN n x0 x1 x2 x3).1,.int .i64 (decodeN n x0 x1 x2 x3).2])∧Below w.heap.size w w':=by
 have hz0:(0:Int) < (n:Int):=by omega
 have hz0':¬ ((n:Int) < 1):=by omega
 have hc0:=hT.1 x0 (by omega)
 have hres:firstT x0 < 240→decodeN n x0 x1 x2 x3=slowN n x0 x1 x2 x3 (firstT x0 % 8) (accLo (firstT x0 / 16)) (accHi (firstT x0 / 16)) :=
  fun h=>(Lib.slow_eq _ _ _ _ _ (by omega) (by omega) (by omega) (by omega) h).symm
 have hblt:b < w.heap.size:=cell_lt k0
 have hne:∀ j v,w.cell? ⟨b,j,none⟩=some v→b < w.heap.size:=fun _ _ _=>hblt
 clear hne
 rcases Lib.firstT_cases x0 with hX | hX | hX | hX | hX | hX | hX | hX | hX
 ·exfalso
  unfold firstT at hX
  repeat' split at hX
  all_goals omega
 ·rw[Lib.bad_eq _ _ _ _ _ (by omega) hX]
  rw[hX]at hc0
  clear hres hT hX k1 k2 k3
  go_enter Tryz.func253,Tryz.ntmps253
  go_wp2
  rw[Utf8W.mask241,Utf8W.drop_byte ⟨x0,l0⟩]
  go_ret2
  exact⟨rfl,zB _ _⟩
 all_goals replace hres:=hres (by omega)
 ·rw[hX]at hc0 hres
  have ha0:=(hT.2 0 (by omega)).1
  have ha1:=(hT.2 0 (by omega)).2
  simp only[accLo,accHi,Nat.reduceMul,Nat.reduceAdd,Nat.reduceEqDiff,if_true,if_false,Nat.reduceMod,Nat.reduceDiv]at ha0 ha1 hres
  rw[hres]
  clear hres hT hX
  by_cases hn':n < 2
  ·have hnz:(n:Int) < 2:=by omega
   clear k1 k2 k3
   go_enter Tryz.func253,Tryz.ntmps253
   go_wp2
   all_goals
    go_ret2
    refine⟨?_,(zB _ _).alloc (zA _) _⟩
    unfold slowN
    repeat' split
    all_goals first
     | (exfalso;omega)
     | rfl
     | (simp only[Int.natCast_add,Int.natCast_mul,Int.natCast_emod,Int.natCast_ofNat];rfl)
  ·clear k2 k3
   have hz1:(1:Int) < (n:Int):=by omega
   replace k1:=k1 (by omega)
   go_enter Tryz.func253,Tryz.ntmps253
   go_wp2
   all_goals
    go_ret2
    refine⟨?_,(zB _ _).alloc (zA _) _⟩
    unfold slowN
    repeat' split
    all_goals first
     | (exfalso;omega)
     | rfl
     | (simp only[Int.natCast_add,Int.natCast_mul,Int.natCast_emod,Int.natCast_ofNat];rfl)
 ·rw[hX]at hc0 hres
  have ha0:=(hT.2 1 (by omega)).1
  have ha1:=(hT.2 1 (by omega)).2
  simp only[accLo,accHi,Nat.reduceMul,Nat.reduceAdd,Nat.reduceEqDiff,if_true,if_false,Nat.reduceMod,Nat.reduceDiv]at ha0 ha1 hres
  rw[hres]
  clear hres hT hX
  by_cases hn':n < 3
  ·have hnz:(n:Int) < 3:=by omega
   clear k1 k2 k3
   go_enter Tryz.func253,Tryz.ntmps253
   go_wp2
   all_goals
    go_ret2
    refine⟨?_,(zB _ _).alloc (zA _) _⟩
    unfold slowN
    repeat' split
    all_goals first
     | (exfalso;omega)
     | rfl
     | (simp only[Int.natCast_add,Int.natCast_mul,Int.natCast_emod,Int.natCast_ofNat];rfl)
  ·clear k3
   have hz1:(1:Int) < (n:Int):=by omega
   replace k1:=k1 (by omega)
   have hz2:(2:Int) < (n:Int):=by omega
   replace k2:=k2 (by omega)
   go_enter Tryz.func253,Tryz.ntmps253
   go_wp2
   all_goals
    go_ret2
    refine⟨?_,(zB _ _).alloc (zA _) _⟩
    unfold slowN
    repeat' split
    all_goals first
     | (exfalso;omega)
     | rfl
     | (simp only[Int.natCast_add,Int.natCast_mul,Int.natCast_emod,Int.natCast_ofNat];rfl)
 ·rw[hX]at hc0 hres
  have ha0:=(hT.2 0 (by omega)).1
  have ha1:=(hT.2 0 (by omega)).2
  simp only[accLo,accHi,Nat.reduceMul,Nat.reduceAdd,Nat.reduceEqDiff,if_true,if_false,Nat.reduceMod,Nat.reduceDiv]at ha0 ha1 hres
  rw[hres]
  clear hres hT hX
  by_cases hn':n < 3
  ·have hnz:(n:Int) < 3:=by omega
   clear k1 k2 k3
   go_enter Tryz.func253,Tryz.ntmps253
   go_wp2
   all_goals
    go_ret2
    refine⟨?_,(zB _ _).alloc (zA _) _⟩
    unfold slowN
    repeat' split
    all_goals first
     | (exfalso;omega)
     | rfl
     | (simp only[Int.natCast_add,Int.natCast_mul,Int.natCast_emod,Int.natCast_ofNat];rfl)
  ·clear k3
   have hz1:(1:Int) < (n:Int):=by omega
   replace k1:=k1 (by omega)
   have hz2:(2:Int) < (n:Int):=by omega
   replace k2:=k2 (by omega)
   go_enter Tryz.func253,Tryz.ntmps253
   go_wp2
   all_goals
    go_ret2
    refine⟨?_,(zB _ _).alloc (zA _) _⟩
    unfold slowN
    repeat' split
    all_goals first
     | (exfalso;omega)
     | rfl
     | (simp only[Int.natCast_add,Int.natCast_mul,Int.natCast_emod,Int.natCast_ofNat];rfl)
 ·rw[hX]at hc0 hres
  have ha0:=(hT.2 2 (by omega)).1
  have ha1:=(hT.2 2 (by omega)).2
  simp only[accLo,accHi,Nat.reduceMul,Nat.reduceAdd,Nat.reduceEqDiff,if_true,if_false,Nat.reduceMod,Nat.reduceDiv]at ha0 ha1 hres
  rw[hres]
  clear hres hT hX
  by_cases hn':n < 3
  ·have hnz:(n:Int) < 3:=by omega
   clear k1 k2 k3
   go_enter Tryz.func253,Tryz.ntmps253
   go_wp2
   all_goals
    go_ret2
    refine⟨?_,(zB _ _).alloc (zA _) _⟩
    unfold slowN
    repeat' split
    all_goals first
     | (exfalso;omega)
     | rfl
     | (simp only[Int.natCast_add,Int.natCast_mul,Int.natCast_emod,Int.natCast_ofNat];rfl)
  ·clear k3
   have hz1:(1:Int) < (n:Int):=by omega
   replace k1:=k1 (by omega)
   have hz2:(2:Int) < (n:Int):=by omega
   replace k2:=k2 (by omega)
   go_enter Tryz.func253,Tryz.ntmps253
   go_wp2
   all_goals
    go_ret2
    refine⟨?_,(zB _ _).alloc (zA _) _⟩
    unfold slowN
    repeat' split
    all_goals first
     | (exfalso;omega)
     | rfl
     | (simp only[Int.natCast_add,Int.natCast_mul,Int.natCast_emod,Int.natCast_ofNat];rfl)
 ·rw[hX]at hc0 hres
  have ha0:=(hT.2 3 (by omega)).1
  have ha1:=(hT.2 3 (by omega)).2
  simp only[accLo,accHi,Nat.reduceMul,Nat.reduceAdd,Nat.reduceEqDiff,if_true,if_false,Nat.reduceMod,Nat.reduceDiv]at ha0 ha1 hres
  rw[hres]
  clear hres hT hX
  by_cases hn':n < 4
  ·have hnz:(n:Int) < 4:=by omega
   clear k1 k2 k3
   go_enter Tryz.func253,Tryz.ntmps253
   go_wp2
   all_goals
    go_ret2
    refine⟨?_,(zB _ _).alloc (zA _) _⟩
    unfold slowN
    repeat' split
    all_goals first
     | (exfalso;omega)
     | rfl
     | (simp only[Int.natCast_add,Int.natCast_mul,Int.natCast_emod,Int.natCast_ofNat];rfl)
  ·skip
   have hz1:(1:Int) < (n:Int):=by omega
   replace k1:=k1 (by omega)
   have hz2:(2:Int) < (n:Int):=by omega
   replace k2:=k2 (by omega)
   have hz3:(3:Int) < (n:Int):=by omega
   replace k3:=k3 (by omega)
   go_enter Tryz.func253,Tryz.ntmps253
   go_wp2
   all_goals
    go_ret2
    refine⟨?_,(zB _ _).alloc (zA _) _⟩
    unfold slowN
    repeat' split
    all_goals first
     | (exfalso;omega)
     | rfl
     | (simp only[Int.natCast_add,Int.natCast_mul,Int.natCast_emod,Int.natCast_ofNat];rfl)
 ·rw[hX]at hc0 hres
  have ha0:=(hT.2 0 (by omega)).1
  have ha1:=(hT.2 0 (by omega)).2
  simp only[accLo,accHi,Nat.reduceMul,Nat.reduceAdd,Nat.reduceEqDiff,if_true,if_false,Nat.reduceMod,Nat.reduceDiv]at ha0 ha1 hres
  rw[hres]
  clear hres hT hX
  by_cases hn':n < 4
  ·have hnz:(n:Int) < 4:=by omega
   clear k1 k2 k3
   go_enter Tryz.func253,Tryz.ntmps253
   go_wp2
   all_goals
    go_ret2
    refine⟨?_,(zB _ _).alloc (zA _) _⟩
    unfold slowN
    repeat' split
    all_goals first
     | (exfalso;omega)
     | rfl
     | (simp only[Int.natCast_add,Int.natCast_mul,Int.natCast_emod,Int.natCast_ofNat];rfl)
  ·skip
   have hz1:(1:Int) < (n:Int):=by omega
   replace k1:=k1 (by omega)
   have hz2:(2:Int) < (n:Int):=by omega
   replace k2:=k2 (by omega)
   have hz3:(3:Int) < (n:Int):=by omega
   replace k3:=k3 (by omega)
   go_enter Tryz.func253,Tryz.ntmps253
   go_wp2
   all_goals
    go_ret2
    refine⟨?_,(zB _ _).alloc (zA _) _⟩
    unfold slowN
    repeat' split
    all_goals first
     | (exfalso;omega)
     | rfl
     | (simp only[Int.natCast_add,Int.natCast_mul,Int.natCast_emod,Int.natCast_ofNat];rfl)
 ·rw[hX]at hc0 hres
  have ha0:=(hT.2 4 (by omega)).1
  have ha1:=(hT.2 4 (by omega)).2
  simp only[accLo,accHi,Nat.reduceMul,Nat.reduceAdd,Nat.reduceEqDiff,if_true,if_false,Nat.reduceMod,Nat.reduceDiv]at ha0 ha1 hres
  rw[hres]
  clear hres hT hX
  by_cases hn':n < 4
  ·have hnz:(n:Int) < 4:=by omega
   clear k1 k2 k3
   go_enter Tryz.func253,Tryz.ntmps253
   go_wp2
   all_goals
    go_ret2
    refine⟨?_,(zB _ _).alloc (zA _) _⟩
    unfold slowN
    repeat' split
    all_goals first
     | (exfalso;omega)
     | rfl
     | (simp only[Int.natCast_add,Int.natCast_mul,Int.natCast_emod,Int.natCast_ofNat];rfl)
  ·skip
   have hz1:(1:Int) < (n:Int):=by omega
   replace k1:=k1 (by omega)
   have hz2:(2:Int) < (n:Int):=by omega
   replace k2:=k2 (by omega)
   have hz3:(3:Int) < (n:Int):=by omega
   replace k3:=k3 (by omega)
   go_enter Tryz.func253,Tryz.ntmps253
   go_wp2
   all_goals
    go_ret2
    refine⟨?_,(zB _ _).alloc (zA _) _⟩
    unfold slowN
    repeat' split
    all_goals first
     | (exfalso;omega)
     | rfl
     | (simp only[Int.natCast_add,Int.natCast_mul,Int.natCast_emod,Int.natCast_ofNat];rfl)
theorem wF (b o n c:Nat) (x0 x1 x2 x3:Nat) (w:World) (hn:1≤n) (hnm:n≤1099511627776) (l0:x0 < 256) (l1:x1 < 256) (l2:x2 < 256) (l3:x3 < 256) (hb0:128≤x0)
  (k0:w.cell? ⟨b,o,none⟩=some (.int .u8 x0)) (k1:1 < n→w.cell? ⟨b,o+1,none⟩=some (.int .u8 x1)) (k2:2 < n→w.cell? ⟨b,o+2,none⟩=some (.int .u8 x2)) (k3:3 < n→w.cell? ⟨b,o+3,none⟩=some (.int .u8 x3)) (hT:Lib.Utf8Tabs 1 2 w) :
  Calls Tryz.prog 238 #[.slice (some ⟨b,o,none⟩) n c] w fun e w'=>e=.returned (.tuple #[.int .i32 (decodeN n x0 x1 x2 x3).1,.int .i64 (decodeN n x0 x1 x2 x3).2])∧Below w.heap.size w w':=by
 have HC:=aH (wE b o n c x0 x1 x2 x3 w hn hnm l0 l1 l2 l3 hb0 k0 k1 k2 k3 hT)
 generalize (decodeN n x0 x1 x2 x3).1=r at *
 generalize (decodeN n x0 x1 x2 x3).2=k at *
 have hz0:(0:Int) < (n:Int):=by omega
 have hge:¬ ((x0:Int) < 128):=by omega
 clear k1 k2 k3 hT
 go_enter Tryz.func238,Tryz.ntmps238
 go_wp2_with fail
 go_loop [8] (fun i=>i=.int .i64 0) (fun _=>0)
 case atStart=>exact rfl
 case round =>
  subst hrel
  go_wp2_with fail
  refine HC.out.mono ?_
  rintro e w' ⟨rfl,hb⟩
  go_wp2
  go_ret2
  exact⟨rfl,hb⟩
end Go.Proofs.YthjeglnkgdpijaaGreatDoor
namespace Go.Proofs.YthjeglnkgdpijaaGreatDoor
open Go.RowKit
def qQ (fs:List FD):Prop:=∀ f∈fs,f.1.size≤1099511627776∧f.2.size≤1099511627776
theorem wS (X:Option Addr) (n d:Nat) (fs:List FD) (name:ByteArray) (w:World) (hn:n≤1099511627776) (hl:fs.length=n) (hf:qQ fs) (h2:name.size≤1099511627776) (hx:Rd w X n 2 (aJ fs)) :
  Calls Tryz.prog 81 #[.slice X n d,.string name] w (eP w 9 1 (F.values fs name).length (aF (F.values fs name))):=by
 have HL:=aH hl
 clear hl
 go_enter Tryz.func81,Tryz.ntmps81
 go_wp2
 go_loopw [5,10] (fun o i wr=>∃ (k m:Nat) (A:Option Addr) (c:Nat),k≤n∧m≤k∧i=.int .i64 k∧o=.slice A m c∧m=(F.values (fs.take k) name).length∧Row wr w.heap.size 9 1 A m c (aF (F.values (fs.take k) name))∧Below w.heap.size w wr) (fun _ i _=>n - (intOf i).toNat)
 case atStart=>exact⟨0,0,none,0,zF _,zA _,rfl,rfl,rfl,Row.none_ _ _ _ _,zB _ _⟩
 case round =>
  obtain⟨k,m,A,c,hk,hmk,rfl,rfl,hm,hrow,hbel⟩:=hrel
  have HM:=aH hm
  clear hm
  by_cases hlt:k < n
  ·obtain⟨b,o,rfl,hb,c1,c2⟩:=(hx.below hbel).field hlt HL.out
   have hv:=F.aC1 fs name k (by rw[HL.out];exact hlt)
   obtain⟨f,hfk⟩:∃ f,f=fs[k]'(by rw[HL.out];exact hlt):=⟨_,rfl⟩
   have hfs:=hf f (by rw[hfk];exact List.getElem_mem _)
   rw[← hfk]at hv c1 c2
   have HV:=aH hv
   clear hv hfk
   rcases tf (F.is f name) with his | his
   ·have hcc:=fun w=>(aON f name w hfs.1 h2)
    rw[his]at hcc HV
    have hv:F.values (fs.take (k+1)) name=F.values (fs.take k) name++[f.2]:=by rw[HV.out];simp
    have HV:=aH hv
    clear hv
    go_wp2_with fail
    refine (hcc _).mono ?_
    rintro e w1 ⟨rfl,hb1⟩
    have hc1:=aPX hb1 1 rfl
    have hz1:=aPD hb1
    have hr1:=hrow.new hb1
    have hB1:=nR hbel hbel.size hb1
    clear hb1 hrow hbel hcc
    go_wp2_with (at_builtin;refine aLK _ rfl (.tmp 17) (.tmp 20) rfl w.heap.size A m c _ rfl (hr1.alloc _) _ 1 1 [f.2] rfl (aMJ _ _) (by omega) (by have:=hB1.size;simp;omega) ?_;intro A1 c1 w2 hr2 ha2)
    go_roundw
    case rel =>
     refine⟨k+1,m+1,A1,c1,by omega,by omega,by go_num,rfl,?_,?_,?_⟩
     ·rw[HV.out,bC,HM.out];rfl
     ·rw[HV.out];exact hr2
     ·exact (hB1.alloc hB1.size _).trans (ha2.below (hr1.alloc _) (by have:=hB1.size;simp;omega))
    case measure=>simp [intOf];omega
   ·have hcc:=fun w=>(aON f name w hfs.1 h2)
    rw[his]at hcc HV
    have hv:F.values (fs.take (k+1)) name=F.values (fs.take k) name:=by rw[HV.out];simp
    have HV:=aH hv
    clear hv
    go_wp2_with fail
    refine (hcc _).mono ?_
    rintro e w1 ⟨rfl,hb1⟩
    have hr1:=hrow.new hb1
    have hB1:=nR hbel hbel.size hb1
    clear hb1 hrow hbel hcc
    go_wp2
    go_roundw
    case rel=>exact⟨k+1,m,A,c,by omega,by omega,by go_num,rfl,by rw[HV.out,HM.out],by rw[HV.out];exact hr1,hB1⟩
    case measure=>simp [intOf];omega
  ·have hkn:k=n:=by omega
   have ht:fs.take k=fs:=List.take_of_length_le (by have:=HL.out;omega)
   rw[ht]at hrow
   have HM2:Hid (m=(F.values fs name).length):=by have:=HM.out;rw[ht]at this;exact this
   clear hkn ht HM
   go_wp2
   go_ret
   refine⟨A,c,?_,?_,hbel⟩
   ·rw[← HM2.out];rfl
   ·rw[← HM2.out];exact hrow
theorem aG2:∀ (c:UInt8) (n:Nat) (q:Bool) (cur l p:List UInt8),l.length≤n→p∈T.pieces c q cur l→p.length≤cur.length+l.length:=by
 intro c n
 induction n with
 | zero =>
  intro q cur l p h hp
  have:l=[]:=List.eq_nil_of_length_eq_zero (by omega)
  subst this
  simp [T.pieces]at hp
  subst hp;simp
 | succ n ih =>
  intro q cur l p h hp
  cases l with
  | nil=>simp [T.pieces]at hp;subst hp;simp
  | cons x r =>
   rw[T.jK]at hp
   simp only[List.length_cons]at h ⊢
   split at hp
   ·cases r with
    | nil=>simp at hp;subst hp;simp
    | cons y r' =>
     have:=ih q (cur++[x,y]) r' p (by simp at h;omega) hp
     simp at this ⊢;omega
   ·split at hp
    ·have:=ih (!q) (cur++[x]) r p (by omega) hp;simp at this;omega
    ·split at hp
     ·rcases List.mem_cons.1 hp with rfl | hp
      ·omega
      ·have:=ih q [] r p (by omega) hp;simp at this;omega
     ·have:=ih q (cur++[x]) r p (by omega) hp;simp at this;omega
theorem aJG {c:UInt8} {s p:ByteArray} (h:p∈F.split c s):p.size≤s.size:=by
 unfold F.split at h
 obtain⟨q,hq,rfl⟩:=List.mem_map.1 h
 have:=aG2 c _ false [] (L s) q (zA _) hq
 have h2:=T.yQ q
 rw[iZ,aS s];simp at this;omega
theorem aFF {s p:ByteArray} (h:p∈F.list s):p.size≤s.size:=aJG (List.mem_filter.1 h).1
theorem pY {fs:List FD} {name:ByteArray} (hf:qQ fs):∀ v∈F.values fs name,v.size≤1099511627776:=by
 intro v hv
 unfold F.values at hv
 obtain⟨f,hfm,rfl⟩:=List.mem_map.1 hv
 exact (hf f (List.mem_filter.1 hfm).1).2
theorem aGC (X:Option Addr) (n d:Nat) (fs:List FD) (name:ByteArray) (w:World) (hn:n≤1099511627776) (hl:fs.length=n) (hf:qQ fs) (h2:name.size≤1099511627776) (htot:(F.tokens fs name).length≤1099511627776) (hx:Rd w X n 2 (aJ fs)) :
  Calls Tryz.prog 78 #[.slice X n d,.string name] w (eP w 9 1 (F.tokens fs name).length (aF (F.tokens fs name))):=by
 go_enter Tryz.func78,Tryz.ntmps78
 go_wp2_with fail
 refine (wS X n d fs name _ hn hl hf h2 hx).mono ?_
 rintro e w1 ⟨Y,dy,rfl,hY,hb1⟩
 have hsm:∀ v∈F.values fs name,v.size≤1099511627776:=pY hf
 have hfin:=F.aIL fs name
 have hle:=F.aAR fs name
 rw[hl]at hle
 obtain⟨vs,hvs⟩:∃ vs,vs=F.values fs name:=⟨_,rfl⟩
 rw[← hvs]at hY hle hsm hfin ⊢
 rw[hfin]at htot
 obtain⟨nv,hnv⟩:∃ nv,nv=vs.length:=⟨_,rfl⟩
 rw[← hnv]at hY hle ⊢
 have HV:=aH hvs;clear hvs
 have HN:=aH hnv;clear hnv
 have HF:=aH hfin;clear hfin
 have HS:=aH hsm;clear hsm
 have HL:=aH hl;clear hl
 have hy:=hY.rd
 clear hY hx hf
 have hnn:nv≤1099511627776:=bD hle hn
 go_wp2
 go_loopw [5,7,9,14,21] (fun o _ _ i _ wr=>∃ (k m:Nat) (A:Option Addr) (c:Nat),k≤nv∧i=.int .i64 k∧o=.slice A m c∧m=(F.toks (vs.take k)).length∧Row wr w1.heap.size 9 1 A m c (aF (F.toks (vs.take k)))∧Below w1.heap.size w1 wr) (fun _ _ _ i _ _=>n - (intOf i).toNat)
 case atStart=>exact⟨0,0,none,0,zF _,rfl,rfl,rfl,Row.none_ _ _ _ _,zB _ _⟩
 case round =>
  obtain⟨k,m,A,c,hk,rfl,rfl,hm,hrow,hbel⟩:=hrel
  have HM:=aH hm
  clear hm
  by_cases hlt:k < nv
  ·have hkl:k < vs.length:=by rw[← HN.out];exact hlt
   obtain⟨b,o,rfl,hb,c1⟩:=(hy.below hbel).str hlt HN.out.symm
   have hsn:=F.aIK vs k hkl
   have hle1:=F.aO8 vs (k+1)
   have hsx:=HS.out _ (List.getElem_mem hkl)
   obtain⟨x,hxk⟩:∃ x,x=vs[k]'hkl:=⟨_,rfl⟩
   rw[← hxk]at hsn c1 hsx
   clear hxk
   have hlen:m+(F.list x).length≤1099511627776:=by
    rw[hsn,bC,List.length_map]at hle1
    rw[HM.out];omega
   have HSN:=aH hsn;clear hsn hle1
   go_wp2_with fail
   refine (aFH x _ hsx).mono ?_
   rintro e w2 ⟨E,de,rfl,hE,hb2⟩
   have hr2:=hrow.below hb2
   have hB2:=aA hbel.size hbel hb2
   have hz2:=hbel.size
   have hz3:=hb2.size
   have hsep0:=Sep.fresh hrow hE
   have hes:∀ p∈F.list x,p.size≤1099511627776:=fun p hp=>bD (aFF hp) hsx
   obtain⟨es,hxs⟩:∃ es,es=F.list x:=⟨_,rfl⟩
   rw[← hxs]at hE hsep0 hes hlen HSN ⊢
   obtain⟨ne,hne⟩:∃ ne,ne=es.length:=⟨_,rfl⟩
   rw[← hne]at hE hsep0 hlen ⊢
   have HNE:=aH hne
   have HES:=aH hes
   have HE:=aH hE.rd
   have HSEP:=aH hsep0
   clear hb2 hrow hbel hxs hne hes hE hsep0
   go_wp2
   go_loopw [5,9,21] (fun o _ i wi=>∃ (j m':Nat) (A':Option Addr) (c':Nat),j≤ne∧i=.int .i64 j∧o=.slice A' m' c'∧m'=m+j∧Row wi w1.heap.size 9 1 A' m' c' (aF (F.toks (vs.take k)++(es.take j).map fun el=>B (T.fold (L el))))∧Rd wi E ne 1 (aF es)∧Sep A' c' E ne∧Below w1.heap.size w1 wi) (fun _ _ i _=>ne - (intOf i).toNat)
   case atStart=>exact⟨0,m,A,c,zF _,rfl,rfl,rfl,by simpa using hr2,HE.out,HSEP.out,hB2⟩
   case round =>
    clear hr2 hB2
    obtain⟨j,m',A',c',hj,rfl,rfl,hm',hrow,hrd,hsep,hbel⟩:=hrel
    have hml:m'≤1099511627776:=by omega
    have hmm:m'=m+j:=hm'
    have HM':=aH hm'
    clear hm'
    by_cases hlt2:j < ne
    ·have hjl:j < es.length:=by rw[← HNE.out];exact hlt2
     obtain⟨b2,o2,rfl,hb2,c2⟩:=hrd.str hlt2 HNE.out.symm
     have hsy:=HES.out _ (List.getElem_mem hjl)
     have hsn2:=aMN (fun el=>B (T.fold (L el))) es j hjl
     obtain⟨y,hyj⟩:∃ y,y=es[j]'hjl:=⟨_,rfl⟩
     rw[← hyj]at c2 hsy hsn2
     clear hyj hmm
     have HSN2:=aH hsn2;clear hsn2
     go_wp2_with fail
     refine (rX y _ hsy).mono ?_
     rintro e w3 ⟨rfl,hb3⟩
     have hr3:=hrow.below hb3
     have hd3:=hrd.below hb3
     have hB3:=aA hbel.size hbel hb3
     have hz4:=hbel.size
     have hz5:=hb3.size
     clear hb3 hrow hbel hrd
     go_wp2_with (at_builtin;refine aLK _ rfl (.tmp 25) (.tmp 28) rfl w1.heap.size A' m' c' _ rfl (hr3.alloc _) _ 1 1 _ rfl (aMJ _ _) (by omega) (by simp;omega) ?_;intro A1 c1 w4 hr4 ha4)
     go_roundw
     case rel =>
      refine⟨j+1,m'+1,A1,c1,by omega,by go_num,rfl,by rw[HM'.out];omega,?_,?_,?_,?_⟩
      ·rw[HSN2.out,← List.append_assoc];exact hr4
      ·exact ha4.rd (hd3.alloc _) hsep
      ·exact ha4.sep (hd3.alloc _) hsep
      ·exact (hB3.alloc (by omega) _).trans (ha4.below (hr3.alloc _) (by simp;omega))
     case measure=>simp [intOf];omega
    ·have hjn:j=ne:=by omega
     have ht:es.take j=es:=List.take_of_length_le (by rw[← HNE.out];omega)
     rw[ht,← HSN.out]at hrow
     have hmf:m'=(F.toks (vs.take (k+1))).length:=by rw[HSN.out,bC,List.length_map,← HNE.out,← HM.out,← hjn];exact HM'.out
     have HMF:=aH hmf
     clear hjn ht hmf hmm
     go_wp2
     go_roundw
     case rel=>exact⟨k+1,m',A',c',by omega,by go_num,rfl,HMF.out,hrow,hbel⟩
     case measure=>simp [intOf];omega
  ·have ht:vs.take k=vs:=List.take_of_length_le (by have:=HN.out;omega)
   rw[ht]at hrow
   have HM2:Hid (m=(F.tokens fs name).length):=by have:=HM.out;rw[ht]at this;rw[HF.out];exact this
   clear ht HM
   go_wp2
   go_ret
   refine⟨A,c,?_,?_,hb1.trans (hbel.mono hb1.size)⟩
   ·rw[← HM2.out];rfl
   ·rw[← HM2.out,HF.out];exact hrow.mono hb1.size
end Go.Proofs.YthjeglnkgdpijaaGreatDoor
namespace Go.Proofs.YthjeglnkgdpijaaGreatDoor
open Go
namespace F
def sep:List UInt8:=[44,32]
def glue (vs:List ByteArray):List UInt8:=Lib.join (vs.map L) sep
def joined (fs:List FD) (name:ByteArray):ByteArray:=B (glue (values fs name))
def has (fs:List FD) (name:ByteArray):Bool:=!(values fs name).isEmpty
def via3:ByteArray:=⟨#[86,105,97]⟩
def viaOf (fs:List FD) (minor:Int) (name:ByteArray):ByteArray :=
 (if has fs via3 then joined fs via3++⟨#[44,32]⟩ else joined fs via3)++⟨#[49,46]⟩++B (Lib.itoa minor)++⟨#[32]⟩++name
end F
namespace F
def aRQ:ByteArray:=⟨#[72,111,115,116]⟩
def aKD:ByteArray:=⟨#[69,120,112,101,99,116]⟩
def aRX:ByteArray:=⟨#[67,111,110,116,101,110,116,45,76,101,110,103,116,104]⟩
def three:List ByteArray:=[aRQ,aKD,aRX]
def four:List ByteArray:=[⟨#[104,111,115,116]⟩,⟨#[101,120,112,101,99,116]⟩,⟨#[99,111,110,116,101,110,116,45,108,101,110,103,116,104]⟩,⟨#[118,105,97]⟩]
def hostOf (host:ByteArray) (port:Int):ByteArray:=if port=80 then host else host++(⟨#[58]⟩++B (Lib.itoa port))
def sent (fs:List FD) (m:Int) (via host:ByteArray) (port:Int):List FD :=
 put ((aRQ,hostOf host port)::without (strip fs) three) via3 (viaOf fs m via)
def ten:List ByteArray:=[⟨#[67,111,110,110,101,99,116,105,111,110]⟩,⟨#[75,101,101,112,45,65,108,105,118,101]⟩,⟨#[80,114,111,120,121,45,67,111,110,110,101,99,116,105,111,110]⟩,⟨#[80,114,111,120,121,45,65,117,116,104,111,114,105,122,97,116,105,111,110]⟩,⟨#[84,69]⟩,⟨#[84,114,97,105,108,101,114]⟩,⟨#[84,114,97,110,115,102,101,114,45,69,110,99,111,100,105,110,103]⟩,⟨#[85,112,103,114,97,100,101]⟩,aRX,aKD]
end F
namespace F
def good (v:ByteArray):Bool:=(L v).all T.gJ&&decide (T.trim (L v)=L v)
def okF (f:FD):Bool:=T.token (L f.1)&&good f.2
def line (f:FD):List UInt8:=L f.1++[58,32]++L f.2++[13,10]
def lines (fs:List FD):List UInt8:=fs.flatMap line
def visB (c:UInt8):Bool:=decide (33≤c.toNat)&&decide (c.toNat≤126)
def visible (s:ByteArray):Bool:=(L s).all visB&&!(L s).isEmpty
def text (s:ByteArray):Bool:=(L s).all T.gJ
def dJ (fs:List FD):Int:=if fs.all okF then (if 100 < fs.length then 42 else 0) else 40
def tN (fs:List FD):List UInt8:=if dJ fs=0 then lines fs else []
def dP (l:List UInt8) (fs:List FD):Int:=if dJ fs=0 then (if 8192 < l.length+(lines fs).length+4 then 51 else 0) else dJ fs
def iR (l:List UInt8) (fs:List FD):List UInt8:=if dP l fs=0 then l++[13,10]++lines fs++[13,10] else []
def bG (s:Int) (r:ByteArray) (n:Int):List UInt8:=[72,84,84,80,47,49,46]++Lib.itoa n++[32]++Lib.itoa s++[32]++L r
def gW (s:Int) (r:ByteArray) (n:Int) (fs:List FD):Int:=if n < 0∨1 < n∨text r=false then 50 else if s < 100∨599 < s then 53 else dP (bG s r n) fs
def eQ (s:Int) (r:ByteArray) (n:Int) (fs:List FD):List UInt8:=if gW s r n fs=0 then iR (bG s r n) fs else []
theorem aG6 (fs:List FD) (k:Nat) (h:k < fs.length):lines (fs.take (k+1))=lines (fs.take k)++line fs[k]:=by
 unfold lines
 rw[bI h,List.flatMap_append]
 simp
theorem zN (f:FD):(line f).length=f.1.size+f.2.size+4:=by
 unfold line
 simp only[bC,List.length_cons,List.length_nil,aS]
 omega
theorem uK:∀ fs:List FD,(lines fs).length≤4 * bulk fs
 | []=>zA _
 | f::l=>by
  have:=uK l
  have h:=zN f
  unfold lines at this ⊢
  rw[List.flatMap_cons,bC,h]
  simp only[bulk]
  omega
theorem aG5 (fs:List FD) (k:Nat):(lines (fs.take k)).length≤(lines fs).length:=by
 conv=>rhs;rw[← List.take_append_drop k fs]
 unfold lines
 rw[List.flatMap_append,bC]
 omega
theorem aAM (p:FD→Bool) (fs:List FD) (k:Nat) (h:k < fs.length):(fs.take (k+1)).all p=((fs.take k).all p&&p fs[k]):=by
 rw[bI h,List.all_append]
 simp
theorem qN (p:FD→Bool) (fs:List FD) (k:Nat) (h:k < fs.length) (hp:p fs[k]=false):fs.all p=false:=by
 rw[List.all_eq_false]
 exact⟨_,List.getElem_mem h,by simp [hp]⟩
theorem xK {fs:List FD} (h:fs.all okF=false):dJ fs=40:=by unfold dJ;simp [h]
theorem tK {fs:List FD} (h:fs.all okF=true) (h2:100 < fs.length):dJ fs=42:=by unfold dJ;simp [h,h2]
theorem aBL {fs:List FD} (h:fs.all okF=true) (h2:¬ 100 < fs.length):dJ fs=0:=by unfold dJ;simp [h,h2]
theorem aBN {fs:List FD} (h:dJ fs=0):tN fs=lines fs:=if_pos h
theorem oJ {fs:List FD} (h:dJ fs≠0):tN fs=[]:=if_neg h
theorem aBM (fs:List FD):dJ fs=0∨dJ fs=40∨dJ fs=42:=by
 unfold dJ
 split<;>(try split)<;>simp
theorem aGA (l:List UInt8) (fs:List FD):(iR l fs).length≤8192:=by
 unfold iR
 split
 ·rename_i h
  unfold dP at h
  split at h
  ·split at h
   ·cases h
   ·simp only[bC,List.length_cons,List.length_nil];omega
  ·rename_i h2
   exact absurd h h2
 ·simp
end F
end Go.Proofs.YthjeglnkgdpijaaGreatDoor
namespace Go.Proofs.YthjeglnkgdpijaaGreatDoor
namespace F
def connN:ByteArray:=⟨#[67,111,110,110,101,99,116,105,111,110]⟩
def two:List ByteArray:=[connN,⟨#[84,114,97,110,115,102,101,114,45,69,110,99,111,100,105,110,103]⟩]
end F
theorem aBF (s:Int) (r:ByteArray) (m:Int) (fs:List FD):(F.eQ s r m fs).length≤8192:=by
 unfold F.eQ
 split
 ·exact F.aGA _ _
 ·simp
theorem aEP (l:List UInt8):(B l).size=l.length:=by
 show l.toArray.size=l.length
 simp
namespace P
open T (Bs)
def aFX:Bs:=[13,10]
def qZ:Bs:=[13,10,13,10]
def eol (c:UInt8):Bool:=c==13||c==10
def upto (p:UInt8→Bool) (l:Bs):Bs:=l.takeWhile fun c=>!p c
def from_ (p:UInt8→Bool) (l:Bs):Bs:=l.dropWhile fun c=>!p c
theorem sK (p:UInt8→Bool) (l:Bs):upto p l++from_ p l=l:=List.takeWhile_append_dropWhile
theorem jC (p:UInt8→Bool) (l:Bs):(upto p l).length+(from_ p l).length=l.length:=by
 have:=congrArg List.length (sK p l)
 rwa [bC]at this
def nameOf (l:Bs):Bs:=upto (·==58) l
def valOf (l:Bs):Bs:=T.trim ((from_ (·==58) l).drop 1)
def aFB (l:Bs):Int:=if l.head?=some 32∨l.head?=some 9 then 41 else if from_ (·==58) l=[]∨T.token (nameOf l)=false∨F.good (B (valOf l))=false then 40 else 0
def vW (l:Bs):FD:=(B (nameOf l),B (valOf l))
theorem aBR (l:Bs):(vW l).1.size+(vW l).2.size≤l.length:=by
 have h1:=jC (·==58) l
 have h2:=T.yQ ((from_ (·==58) l).drop 1)
 unfold vW
 rw[aEP,aEP]
 unfold nameOf valOf
 rw[List.length_drop]at h2
 omega
def parse (out:List FD) (l:Bs):List FD × Int :=
 if l=[] then (out,0) else
 match _h:from_ eol l with
 | 13::10::r=>if aFB (upto eol l)≠0 then ([],aFB (upto eol l)) else if out.length=100 then ([],42) else parse (out++[vW (upto eol l)]) r
 | _=>([],40)
termination_by l.length
decreasing_by
 have h1:=jC eol l
 rw[_h]at h1
 simp only[List.length_cons]at h1
 omega
theorem aO4 {p:UInt8→Bool} {l:Bs} {k:Nat} (hk:k≤l.length) (hall:∀ j (h:j < l.length),j < k→p l[j]=false) (hstop:∀ h:k < l.length,p l[k]=true):upto p l=l.take k∧from_ p l=l.drop k:=by
 induction l generalizing k with
 | nil=>simp [upto,from_]
 | cons x l ih =>
  cases k with
  | zero =>
   have hx:p x=true:=hstop (by simp)
   simp [upto,from_,hx]
  | succ k =>
   have hx:p x=false:=hall 0 (by simp) (by omega)
   have:=ih (k:=k) (by simpa using hk) (fun j h hj=>by have:=hall (j+1) (by simpa using h) (by omega);simpa using this) (fun h=>by have:=hstop (by simpa using h);simpa using this)
   unfold upto from_ at this ⊢
   simp [hx,this.1,this.2]
theorem aM7 {p:UInt8→Bool} {l:Bs}:from_ p l=[]↔∀ x∈l,p x=false:=by
 unfold from_
 induction l with
 | nil=>simp
 | cons x l ih =>
  cases hx:p x
  ·simp [hx,ih]
  ·simp [hx]
theorem parse_nil (out:List FD):parse out []=(out,0):=by
 rw[parse.eq_def,if_pos rfl]
theorem uC {l:Bs} (out:List FD) (h0:l≠[]) (h:∀ r,from_ eol l≠13::10::r):parse out l=([],40):=by
 rw[parse.eq_def,if_neg h0]
 split
 ·rename_i r hr
  exact absurd hr (h r)
 ·rfl
theorem oM {l r:Bs} (out:List FD) (h0:l≠[]) (h:from_ eol l=13::10::r):parse out l=if aFB (upto eol l)≠0 then ([],aFB (upto eol l)) else if out.length=100 then ([],42) else parse (out++[vW (upto eol l)]) r:=by
 rw[parse.eq_def,if_neg h0]
 split
 ·rename_i r' hr
  rw[h]at hr
  injection hr with _ hr
  injection hr with _ hr
  subst hr
  rfl
 ·rename_i hr
  exact absurd h (hr r)
theorem aDT (l:Bs):l=[]∨(l≠[]∧∀ r,from_ eol l≠13::10::r)∨(l≠[]∧∃ r,from_ eol l=13::10::r):=by
 by_cases h0:l=[]
 ·exact .inl h0
 ·by_cases h:∃ r,from_ eol l=13::10::r
  ·exact .inr (.inr ⟨h0,h⟩)
  ·exact .inr (.inl ⟨h0,fun r hr=>h ⟨r,hr⟩⟩)
theorem lT:∀ (k:Nat) (out:List FD) (l:Bs),l.length≤k→out.length≤100→F.bulk (parse out l).1≤F.bulk out+l.length∧(parse out l).1.length≤100∧((parse out l).2≠0→(parse out l).1=[])
 | k,out,l,hk,ho=>by
  rcases aDT l with h | ⟨h0,h⟩ | ⟨h0,r,h⟩
  ·subst h
   rw[parse_nil]
   exact⟨Nat.le_add_right _ _,ho,fun h=>absurd rfl h⟩
  ·rw[uC out h0 h]
   exact⟨zF _,zF _,fun _=>rfl⟩
  ·rw[oM out h0 h]
   have hl:=jC eol l
   rw[h]at hl
   simp only[List.length_cons]at hl
   split
   ·exact⟨zF _,zF _,fun _=>rfl⟩
   ·split
    ·exact⟨zF _,zF _,fun _=>rfl⟩
    ·rename_i h100
     cases k with
     | zero=>omega
     | succ k =>
      obtain⟨g1,g2,g3⟩:=lT k (out++[vW (upto eol l)]) r (by omega) (by rw[bC];simp only[List.length_cons,List.length_nil];omega)
      refine⟨?_,g2,g3⟩
      rw[F.vK]at g1
      simp only[F.bulk]at g1
      have:=aBR (upto eol l)
      omega
def skip:Bs→Nat
 | 13::10::r=>skip r+2
 | _=>0
def hIdx (b:Bs) (s:Nat):Int:=Lib.index (b.drop s) qZ
def hE (b:Bs) (s:Nat):Int:=if hIdx b s < 0 then (if b.length < 8192 then 0 else 51) else if 8192 < s+hIdx b s+4 then 51 else 0
def hN (b:Bs) (s:Nat):Int:=if hIdx b s < 0∨8192 < s+hIdx b s+4 then 0 else s+hIdx b s+4
def gX (b:Bs) (s:Nat):Bs:=(b.drop s).take (hIdx b s+2).toNat
def oV (b:Bs) (s:Nat):Bs:=(gX b s).take (Lib.index (gX b s) aFX).toNat
def jT (b:Bs) (s:Nat):Bs:=(gX b s).drop ((Lib.index (gX b s) aFX).toNat+2)
def dig (c:UInt8):Bool:=decide (48≤c.toNat)&&decide (c.toNat≤57)
def aB7:Bs:=[72,84,84,80,47,49,46,48]
def aB6:Bs:=[72,84,84,80,47,49,46,49]
def dX (l:Bs):Bool:=decide (l.length=8)&&decide (l.take 5=[72,84,84,80,47])&&dig (l.getD 5 0)&&decide (l.getD 6 0=46)&&dig (l.getD 7 0)
def sJ (l:Bs):Int:=if dX l=false then 50 else if l=aB7∨l=aB6 then 0 else 52
def aC0 (l:Bs):Int:=if l=aB6 then 1 else 0
structure RQ where
 m:ByteArray
 t:ByteArray
 v:Int
 fs:List FD
 n:Int
 e:Int
def RQ.bad (e:Int):RQ:=⟨⟨#[]⟩,⟨#[]⟩,0,[],0,e⟩
def sp (c:UInt8):Bool:=c==32
def methodOf (l:Bs):Bs:=upto sp l
def behind (l:Bs):Bs:=(from_ sp l).drop 1
def aJ0 (fs:List FD):Int:=(F.values fs ⟨#[72,111,115,116]⟩).length
def reqOf (line block:Bs) (n:Int):RQ :=
 if T.token (methodOf line)=false∨F.visible (B (methodOf (behind line)))=false then .bad 50
 else if sJ (behind (behind line))≠0 then .bad (sJ (behind (behind line)))
 else if (parse [] block).2≠0 then .bad (parse [] block).2
 else if aJ0 (parse [] block).1 > 1∨aJ0 (parse [] block).1 < aC0 (behind (behind line)) then .bad 40
 else ⟨B (methodOf line),B (methodOf (behind line)),aC0 (behind (behind line)),(parse [] block).1,n,0⟩
def request (b:Bs):RQ:=if hE b (skip b)≠0∨hN b (skip b)=0 then .bad (hE b (skip b)) else reqOf (oV b (skip b)) (jT b (skip b)) (hN b (skip b))
end P
open Go.RowKit
def vX (w:World) (v:Value) (e:Ending) (w':World):Prop:=e=.returned v∧w=w'
theorem seven (n:Nat):n < 48∨(48≤n∧n≤57)∨(57 < n∧n < 65)∨(65≤n∧n≤90)∨(90 < n∧n < 97)∨(97≤n∧n≤122)∨122 < n:=by omega
theorem aLZ {c:UInt8} (h:48≤c.toNat∧c.toNat≤57∨65≤c.toNat∧c.toNat≤90∨97≤c.toNat∧c.toNat≤122):T.aCX c=true:=by
 unfold T.aCX
 rcases h with h | h | h
 ·simp [h.1,h.2]
 ·simp [h.1,h.2]
 ·simp [h.1,h.2]
theorem aGD {c:UInt8} (h1:¬ (48≤c.toNat∧c.toNat≤57)) (h2:¬ (65≤c.toNat∧c.toNat≤90)) (h3:¬ (97≤c.toNat∧c.toNat≤122)):T.aCX c=T.others.contains c:=by
 unfold T.aCX
 have e1:(decide (48≤c.toNat)&&decide (c.toNat≤57))=false:=by simp;omega
 have e2:(decide (65≤c.toNat)&&decide (c.toNat≤90))=false:=by simp;omega
 have e3:(decide (97≤c.toNat)&&decide (c.toNat≤122))=false:=by simp;omega
 rw[e1,e2,e3]
 rfl
theorem iH:∀ (l:List UInt8) (c:UInt8),(l.contains c=true∧0≤Lib.indexByte l c)∨(l.contains c=false∧Lib.indexByte l c < 0)
 | [],_=>.inr ⟨rfl,by simp [Lib.indexByte]⟩
 | b::l,c=>by
  have ih:=iH l c
  by_cases h:b=c
  ·subst h
   left
   simp [Lib.indexByte]
  ·have h1:(b==c)=false:=by simpa using h
   have h2:(c==b)=false:=by simpa using Ne.symm h
   have hcc:(b::l).contains c=l.contains c:=by rw[List.contains_cons,h2,Bool.false_or]
   rw[hcc]
   unfold Lib.indexByte
   rw[h1]
   simp only[Bool.false_eq_true,if_false]
   rcases ih with ⟨i1,i2⟩ | ⟨i1,i2⟩
   ·left
    refine⟨i1,?_⟩
    split
    ·rename_i h3
     have:Lib.indexByte l c=-1:=by simpa using h3
     omega
    ·omega
   ·right
    refine⟨i1,?_⟩
    split
    ·omega
    ·rename_i h3
     have:¬ Lib.indexByte l c=-1:=by simpa using h3
     have lo:∀ (l:List UInt8),-1≤Lib.indexByte l c:=by
      intro l
      induction l with
      | nil=>simp [Lib.indexByte]
      | cons x l ih =>
       unfold Lib.indexByte
       split
       ·omega
       ·split
        ·omega
        ·omega
     have:=lo l
     omega
theorem aO6 (c:UInt8):((c.toNat:Int).toNat).toUInt8=c:=by simp
theorem aJV (c:UInt8) (w:World):Calls Tryz.prog 204 #[.string ⟨#[33,35,36,37,38,39,42,43,45,46,94,95,124,126,96]⟩,.int .u8 c.toNat] w (vX w (.int .i64 (Lib.indexByte T.others c))):=by
 refine (Tryz.strings_IndexByte ⟨#[33,35,36,37,38,39,42,43,45,46,94,95,124,126,96]⟩ c.toNat w).mono ?_
 rintro e w' ⟨rfl,rfl⟩
 rw[aO6]
 exact⟨rfl,rfl⟩
theorem yR (c:UInt8) (w:World):Calls Tryz.prog 216 #[.int .u8 c.toNat] w (vX w (.bool (T.aCX c))):=by
 have HI:=aH (aJV c)
 have hc:=iH T.others c
 have hc2:c.toNat < 256:=c.toNat_lt
 rcases seven c.toNat with h | ⟨h,h'⟩ | ⟨h,h'⟩ | ⟨h,h'⟩ | ⟨h,h'⟩ | ⟨h,h'⟩ | h
 case inr.inl | inr.inr.inr.inl | inr.inr.inr.inr.inr.inl =>
  rw[aLZ (by omega)]
  clear hc HI
  go_enter Tryz.func216,Tryz.ntmps216
  go_wp2
  go_ret
  exact⟨rfl,rfl⟩
 all_goals
  rw[aGD (by omega) (by omega) (by omega)]
  generalize Lib.indexByte T.others c=i at *
  rcases hc with ⟨e1,e2⟩ | ⟨e1,e2⟩
  all_goals
   rw[e1]
   clear e1
   go_enter Tryz.func216,Tryz.ntmps216
   go_wp2_with fail
   refine (HI.out _).mono ?_
   rintro e w' ⟨rfl,rfl⟩
   go_wp2
   go_ret
   exact⟨aQ (by first | (simp;done) | (simp;omega)),rfl⟩
theorem sF (p:UInt8→Bool) (l:List UInt8) (k:Nat) (h:k < l.length) (ha:(l.take k).all p=true) (hp:p l[k]=true):(l.take (k+1)).all p=true:=by
 rw[bI h,List.all_append,ha]
 simp [hp]
theorem aF0 (p:UInt8→Bool) (l:List UInt8) (k:Nat) (h:k < l.length) (hp:p l[k]=false):l.all p=false:=by
 rw[List.all_eq_false]
 exact⟨l[k],List.getElem_mem h,by simp [hp]⟩
theorem aLY {l:List UInt8} (h:l.all T.aCX=false):T.token l=false:=by unfold T.token;rw[h];rfl
theorem aIM {l:List UInt8} (h:l.all T.aCX=true):T.token l=decide (0 < l.length):=by
 unfold T.token;rw[h];cases l<;>simp
theorem aAW (s:ByteArray) (w:World) (hs:s.size≤1099511627776):Calls Tryz.prog 199 #[.string s] w (vX w (.bool (T.token (L s)))):=by
 have HZ:Hid ((L s).length=s.size):=(aS s).symm
 go_enter Tryz.func199,Tryz.ntmps199
 go_wp2
 go_loop [3,6] (fun _ i=>∃ k:Nat,k≤s.size∧i=.int .i64 k∧((L s).take k).all T.aCX=true) (fun _ i=>s.size - (intOf i).toNat)
 case atStart=>exact⟨0,zF _,rfl,by simp⟩
 case round =>
  obtain⟨k,hk,rfl,ha⟩:=hrel
  have HAll:=aH ha
  clear ha
  by_cases hlt:k < s.size
  ·have hL:k < (L s).length:=by rw[HZ.out];exact hlt
   have HB:=aH (yR s[k])
   rcases tf (T.aCX ((L s)[k]'hL)) with h | h
   ·have HN:=aH (sF T.aCX (L s) k hL HAll.out h)
    have hb:T.aCX s[k]=true:=h
    rw[hb]at HB
    clear h hb
    go_wp2_with fail
    refine (HB.out _).mono ?_
    rintro e w' ⟨rfl,rfl⟩
    go_wp2
    go_round
    case rel=>exact⟨k+1,by omega,by go_num,HN.out⟩
    case measure=>simp [intOf];omega
   ·have HN:=aH (aLY (aF0 T.aCX (L s) k hL h))
    have hb:T.aCX s[k]=false:=h
    rw[hb]at HB
    clear h hb
    go_wp2_with fail
    refine (HB.out _).mono ?_
    rintro e w' ⟨rfl,rfl⟩
    go_wp2
    go_ret
    exact⟨aQ HN.out.symm,rfl⟩
  ·have hks:k=s.size:=by omega
   have ha:=HAll.out
   rw[List.take_of_length_le (by rw[HZ.out];omega)]at ha
   have hT:=aIM ha
   rw[HZ.out]at hT
   have HT:=aH hT
   clear ha hT hks
   go_wp2
   go_ret
   exact⟨aQ (by rw[HT.out]),rfl⟩
theorem aEY (c:UInt8):(T.gJ c=true∧((c.toNat:Int)==9)=true∧c.toNat < 32)∨(T.gJ c=false∧((c.toNat:Int)==9)=false∧c.toNat < 32) ∨
  (T.gJ c=true∧((c.toNat:Int)==9)=false∧32≤c.toNat∧((c.toNat:Int)==127)=false)∨(T.gJ c=false∧((c.toNat:Int)==9)=false∧32≤c.toNat∧((c.toNat:Int)==127)=true):=by
 unfold T.gJ
 by_cases h1:c.toNat=9
 ·left;simp [h1]
 ·by_cases h2:32≤c.toNat
  ·by_cases h3:c.toNat=127
   ·right;right;right
    simp [h3]
   ·right;right;left
    refine⟨by simp [h2,h3],?_,h2,?_⟩
    ·simp;omega
    ·simp;omega
  ·right;left
   refine⟨by simp [h1];omega,?_,by omega⟩
   simp;omega
theorem aJ2 {s:ByteArray} (h:(L s).all T.gJ=false):F.good s=false:=by unfold F.good;rw[h];rfl
theorem aM4 {s:ByteArray} (h:(L s).all T.gJ=true):F.good s=((B (T.trim (L s))).toList==s.toList):=by
 unfold F.good
 rw[h,Bool.true_and,bM]
 by_cases e:T.trim (L s)=L s
 ·rw[decide_eq_true e,decide_eq_true (by rw[e];exact B_L s)]
 ·rw[decide_eq_false e,decide_eq_false (fun h'=>e (by have:=congrArg L h';exact this))]
theorem aFN (s:ByteArray) (w:World) (hs:s.size≤1099511627776):Calls Tryz.prog 200 #[.string s] w (qP w (F.good s)):=by
 have HZ:Hid ((L s).length=s.size):=(aS s).symm
 have HTR:=aH (rM s w hs)
 go_enter Tryz.func200,Tryz.ntmps200
 go_wp2
 go_loop [3,4,7] (fun _ _ i=>∃ k:Nat,k≤s.size∧i=.int .i64 k∧((L s).take k).all T.gJ=true) (fun _ _ i=>s.size - (intOf i).toNat)
 case atStart=>exact⟨0,zF _,rfl,by simp⟩
 case round =>
  obtain⟨k,hk,rfl,ha⟩:=hrel
  have HAll:=aH ha
  clear ha
  by_cases hlt:k < s.size
  ·have hL:k < (L s).length:=by rw[HZ.out];exact hlt
   have hcell:s[k]=(L s)[k]'hL:=L_at s k hlt
   have hv:=aEY ((L s)[k]'hL)
   rw[← hcell]at hv
   rcases hv with ⟨h,g1,g2⟩ | ⟨h,g1,g2⟩ | ⟨h,g1,g2,g3⟩ | ⟨h,g1,g2,g3⟩
   ·have g5:((s[k].toNat:Int) != 9)=false:=by rw[bne,g1];rfl
    have g6:decide ((s[k].toNat:Int) < 32)=true:=by first | (rw[decide_eq_true_eq];omega) | (rw[decide_eq_false_iff_not];omega)
    have HN:=aH (sF T.gJ (L s) k hL HAll.out h)
    clear h hcell
    go_wp2
    go_round
    case rel=>exact⟨k+1,by omega,by go_num,HN.out⟩
    case measure=>simp [intOf];omega
   ·have g5:((s[k].toNat:Int) != 9)=true:=by rw[bne,g1];rfl
    have g6:decide ((s[k].toNat:Int) < 32)=true:=by first | (rw[decide_eq_true_eq];omega) | (rw[decide_eq_false_iff_not];omega)
    have n1:¬ (s[k].toNat:Int)=9:=by simpa using g1
    have n2:(s[k].toNat:Int) < 32:=by omega
    have HN:=aH (aJ2 (aF0 T.gJ (L s) k hL h))
    clear h hcell
    go_wp2
    go_ret
    exact⟨aQ HN.out.symm,zB _ _⟩
   ·have g5:((s[k].toNat:Int) != 9)=true:=by rw[bne,g1];rfl
    have g6:decide ((s[k].toNat:Int) < 32)=false:=by first | (rw[decide_eq_true_eq];omega) | (rw[decide_eq_false_iff_not];omega)
    have n1:¬ (s[k].toNat:Int)=9:=by simpa using g1
    have n2:¬ (s[k].toNat:Int) < 32:=by omega
    have n3:¬ (s[k].toNat:Int)=127:=by simpa using g3
    have n5:(((s[k].toNat:Int) != 9)&&(decide ((s[k].toNat:Int) < 32)||((s[k].toNat:Int)==127)))=false:=by rw[g5,g6,g3];rfl
    have n6:¬ (((s[k].toNat:Int) != 9)=true∧((s[k].toNat:Int) < 32∨((s[k].toNat:Int)==127)=true)):=by rw[g3];rintro⟨_,h | h⟩<;>first | exact n2 h | cases h
    have HN:=aH (sF T.gJ (L s) k hL HAll.out h)
    clear h hcell
    go_wp2
    go_round
    case rel=>exact⟨k+1,by omega,by go_num,HN.out⟩
    case measure=>simp [intOf];omega
   ·have g5:((s[k].toNat:Int) != 9)=true:=by rw[bne,g1];rfl
    have g6:decide ((s[k].toNat:Int) < 32)=false:=by first | (rw[decide_eq_true_eq];omega) | (rw[decide_eq_false_iff_not];omega)
    have n1:¬ (s[k].toNat:Int)=9:=by simpa using g1
    have n2:¬ (s[k].toNat:Int) < 32:=by omega
    have n3:(s[k].toNat:Int)=127:=by simpa using g3
    have n5:(((s[k].toNat:Int) != 9)&&(decide ((s[k].toNat:Int) < 32)||((s[k].toNat:Int)==127)))=true:=by rw[g5,g6,g3];rfl
    have n6:((s[k].toNat:Int) != 9)=true∧((s[k].toNat:Int) < 32∨((s[k].toNat:Int)==127)=true):=⟨g5,.inr g3⟩
    have HN:=aH (aJ2 (aF0 T.gJ (L s) k hL h))
    clear h hcell
    go_wp2
    ·go_ret
     exact⟨aQ HN.out.symm,zB _ _⟩
    ·exfalso
     have hh:((s[k].toNat:Int) != 9)=false∨(32:Int)≤(s[k].toNat:Int)∧((s[k].toNat:Int)==127)=false:=by assumption
     rcases hh with h | ⟨_,h⟩
     ·rw[g5]at h;cases h
     ·rw[g3]at h;cases h
  ·have hks:k=s.size:=by omega
   have ha:=HAll.out
   rw[List.take_of_length_le (by rw[HZ.out];omega)]at ha
   have HT:=aH (aM4 ha)
   clear ha hks
   go_wp2_with fail
   refine HTR.out.mono ?_
   rintro e w1 ⟨rfl,hb1⟩
   go_wp2
   go_ret
   exact⟨aQ HT.out.symm,hb1⟩
end Go.Proofs.YthjeglnkgdpijaaGreatDoor
