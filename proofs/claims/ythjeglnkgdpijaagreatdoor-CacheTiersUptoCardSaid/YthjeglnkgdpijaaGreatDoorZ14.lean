/- The walks of utf8.decodeRuneSlow and utf8.DecodeRune at a first byte above 127, in a row of bytes. The walks of fields.Values and its document's twin. The walks of the document's List; of fields.Tokens and its twin; of the document's Values. Conditions: as each theorem states them. -/
import Derived.Test.YthjeglnkgdpijaaGreatDoorTokA
set_option maxHeartbeats 4000000
set_option maxRecDepth 1000000
namespace Go.Proofs.YthjeglnkgdpijaaGreatDoor
open Go.RowKit Go.Lib
theorem vG (b o n c:Nat) (x0 x1 x2 x3:Nat) (w:World) (hn:1≤n) (hnm:n≤1099511627776) (l0:x0 < 256) (l1:x1 < 256) (l2:x2 < 256) (l3:x3 < 256) (hb0:128≤x0)
  (k0:w.cell? ⟨b,o,none⟩=some (.int .u8 x0)) (k1:1 < n→w.cell? ⟨b,o+1,none⟩=some (.int .u8 x1)) (k2:2 < n→w.cell? ⟨b,o+2,none⟩=some (.int .u8 x2)) (k3:3 < n→w.cell? ⟨b,o+3,none⟩=some (.int .u8 x3)) (hT:Lib.Utf8Tabs 1 2 w) :
  Calls Tryz.prog 253 #[.slice (some ⟨b,o,none⟩) n c] w fun e w'=>e=.returned (.tuple #[.int .i32 (decodeN n x0 x1 x2 x3).1,.int .i64 (decodeN n x0 x1 x2 x3).2])∧Below w.heap.size w w':=by
 have hz0:(0:Int) < (n:Int):=by omega
 have hz0':¬ ((n:Int) < 1):=by omega
 have hc0:=hT.1 x0 (by omega)
 have hres:firstT x0 < 240→decodeN n x0 x1 x2 x3=slowN n x0 x1 x2 x3 (firstT x0 % 8) (accLo (firstT x0 / 16)) (accHi (firstT x0 / 16)) :=
  fun h=>(Lib.slow_eq _ _ _ _ _ (by omega) (by omega) (by omega) (by omega) h).symm
 have hblt:b < w.heap.size:=cell_lt k0
 have hne:∀ j v,w.cell? ⟨b,j,none⟩=some v→b < w.heap.size:=fun _ _ _=>hblt
 clear hne
 rcases Lib.firstT_cases x0 with hX | hX | hX | hX | hX | hX | hX | hX | hX
 ·exfalso
  unfold firstT at hX
  repeat' split at hX
  all_goals omega
 ·rw[Lib.bad_eq _ _ _ _ _ (by omega) hX]
  rw[hX]at hc0
  clear hres hT hX k1 k2 k3
  go_enter Tryz.func253,Tryz.ntmps253
  go_wp2
  rw[Utf8W.mask241,Utf8W.drop_byte ⟨x0,l0⟩]
  go_ret2
  exact⟨rfl,zB _ _⟩
 all_goals replace hres:=hres (by omega)
 ·rw[hX]at hc0 hres
  have ha0:=(hT.2 0 (by omega)).1
  have ha1:=(hT.2 0 (by omega)).2
  simp only[accLo,accHi,Nat.reduceMul,Nat.reduceAdd,Nat.reduceEqDiff,if_true,if_false,Nat.reduceMod,Nat.reduceDiv]at ha0 ha1 hres
  rw[hres]
  clear hres hT hX
  by_cases hn':n < 2
  ·have hnz:(n:Int) < 2:=by omega
   clear k1 k2 k3
   go_enter Tryz.func253,Tryz.ntmps253
   go_wp2
   all_goals
    go_ret2
    refine⟨?_,(zB _ _).alloc (zA _) _⟩
    unfold slowN
    repeat' split
    all_goals first
     | (exfalso;omega)
     | rfl
     | (simp only[Int.natCast_add,Int.natCast_mul,Int.natCast_emod,Int.natCast_ofNat];rfl)
  ·clear k2 k3
   have hz1:(1:Int) < (n:Int):=by omega
   replace k1:=k1 (by omega)
   go_enter Tryz.func253,Tryz.ntmps253
   go_wp2
   all_goals
    go_ret2
    refine⟨?_,(zB _ _).alloc (zA _) _⟩
    unfold slowN
    repeat' split
    all_goals first
     | (exfalso;omega)
     | rfl
     | (simp only[Int.natCast_add,Int.natCast_mul,Int.natCast_emod,Int.natCast_ofNat];rfl)
 ·rw[hX]at hc0 hres
  have ha0:=(hT.2 1 (by omega)).1
  have ha1:=(hT.2 1 (by omega)).2
  simp only[accLo,accHi,Nat.reduceMul,Nat.reduceAdd,Nat.reduceEqDiff,if_true,if_false,Nat.reduceMod,Nat.reduceDiv]at ha0 ha1 hres
  rw[hres]
  clear hres hT hX
  by_cases hn':n < 3
  ·have hnz:(n:Int) < 3:=by omega
   clear k1 k2 k3
   go_enter Tryz.func253,Tryz.ntmps253
   go_wp2
   all_goals
    go_ret2
    refine⟨?_,(zB _ _).alloc (zA _) _⟩
    unfold slowN
    repeat' split
    all_goals first
     | (exfalso;omega)
     | rfl
     | (simp only[Int.natCast_add,Int.natCast_mul,Int.natCast_emod,Int.natCast_ofNat];rfl)
  ·clear k3
   have hz1:(1:Int) < (n:Int):=by omega
   replace k1:=k1 (by omega)
   have hz2:(2:Int) < (n:Int):=by omega
   replace k2:=k2 (by omega)
   go_enter Tryz.func253,Tryz.ntmps253
   go_wp2
   all_goals
    go_ret2
    refine⟨?_,(zB _ _).alloc (zA _) _⟩
    unfold slowN
    repeat' split
    all_goals first
     | (exfalso;omega)
     | rfl
     | (simp only[Int.natCast_add,Int.natCast_mul,Int.natCast_emod,Int.natCast_ofNat];rfl)
 ·rw[hX]at hc0 hres
  have ha0:=(hT.2 0 (by omega)).1
  have ha1:=(hT.2 0 (by omega)).2
  simp only[accLo,accHi,Nat.reduceMul,Nat.reduceAdd,Nat.reduceEqDiff,if_true,if_false,Nat.reduceMod,Nat.reduceDiv]at ha0 ha1 hres
  rw[hres]
  clear hres hT hX
  by_cases hn':n < 3
  ·have hnz:(n:Int) < 3:=by omega
   clear k1 k2 k3
   go_enter Tryz.func253,Tryz.ntmps253
   go_wp2
   all_goals
    go_ret2
    refine⟨?_,(zB _ _).alloc (zA _) _⟩
    unfold slowN
    repeat' split
    all_goals first
     | (exfalso;omega)
     | rfl
     | (simp only[Int.natCast_add,Int.natCast_mul,Int.natCast_emod,Int.natCast_ofNat];rfl)
  ·clear k3
   have hz1:(1:Int) < (n:Int):=by omega
   replace k1:=k1 (by omega)
   have hz2:(2:Int) < (n:Int):=by omega
   replace k2:=k2 (by omega)
   go_enter Tryz.func253,Tryz.ntmps253
   go_wp2
   all_goals
    go_ret2
    refine⟨?_,(zB _ _).alloc (zA _) _⟩
    unfold slowN
    repeat' split
    all_goals first
     | (exfalso;omega)
     | rfl
     | (simp only[Int.natCast_add,Int.natCast_mul,Int.natCast_emod,Int.natCast_ofNat];rfl)
 ·rw[hX]at hc0 hres
  have ha0:=(hT.2 2 (by omega)).1
  have ha1:=(hT.2 2 (by omega)).2
  simp only[accLo,accHi,Nat.reduceMul,Nat.reduceAdd,Nat.reduceEqDiff,if_true,if_false,Nat.reduceMod,Nat.reduceDiv]at ha0 ha1 hres
  rw[hres]
  clear hres hT hX
  by_cases hn':n < 3
  ·have hnz:(n:Int) < 3:=by omega
   clear k1 k2 k3
   go_enter Tryz.func253,Tryz.ntmps253
   go_wp2
   all_goals
    go_ret2
    refine⟨?_,(zB _ _).alloc (zA _) _⟩
    unfold slowN
    repeat' split
    all_goals first
     | (exfalso;omega)
     | rfl
     | (simp only[Int.natCast_add,Int.natCast_mul,Int.natCast_emod,Int.natCast_ofNat];rfl)
  ·clear k3
   have hz1:(1:Int) < (n:Int):=by omega
   replace k1:=k1 (by omega)
   have hz2:(2:Int) < (n:Int):=by omega
   replace k2:=k2 (by omega)
   go_enter Tryz.func253,Tryz.ntmps253
   go_wp2
   all_goals
    go_ret2
    refine⟨?_,(zB _ _).alloc (zA _) _⟩
    unfold slowN
    repeat' split
    all_goals first
     | (exfalso;omega)
     | rfl
     | (simp only[Int.natCast_add,Int.natCast_mul,Int.natCast_emod,Int.natCast_ofNat];rfl)
 ·rw[hX]at hc0 hres
  have ha0:=(hT.2 3 (by omega)).1
  have ha1:=(hT.2 3 (by omega)).2
  simp only[accLo,accHi,Nat.reduceMul,Nat.reduceAdd,Nat.reduceEqDiff,if_true,if_false,Nat.reduceMod,Nat.reduceDiv]at ha0 ha1 hres
  rw[hres]
  clear hres hT hX
  by_cases hn':n < 4
  ·have hnz:(n:Int) < 4:=by omega
   clear k1 k2 k3
   go_enter Tryz.func253,Tryz.ntmps253
   go_wp2
   all_goals
    go_ret2
    refine⟨?_,(zB _ _).alloc (zA _) _⟩
    unfold slowN
    repeat' split
    all_goals first
     | (exfalso;omega)
     | rfl
     | (simp only[Int.natCast_add,Int.natCast_mul,Int.natCast_emod,Int.natCast_ofNat];rfl)
  ·skip
   have hz1:(1:Int) < (n:Int):=by omega
   replace k1:=k1 (by omega)
   have hz2:(2:Int) < (n:Int):=by omega
   replace k2:=k2 (by omega)
   have hz3:(3:Int) < (n:Int):=by omega
   replace k3:=k3 (by omega)
   go_enter Tryz.func253,Tryz.ntmps253
   go_wp2
   all_goals
    go_ret2
    refine⟨?_,(zB _ _).alloc (zA _) _⟩
    unfold slowN
    repeat' split
    all_goals first
     | (exfalso;omega)
     | rfl
     | (simp only[Int.natCast_add,Int.natCast_mul,Int.natCast_emod,Int.natCast_ofNat];rfl)
 ·rw[hX]at hc0 hres
  have ha0:=(hT.2 0 (by omega)).1
  have ha1:=(hT.2 0 (by omega)).2
  simp only[accLo,accHi,Nat.reduceMul,Nat.reduceAdd,Nat.reduceEqDiff,if_true,if_false,Nat.reduceMod,Nat.reduceDiv]at ha0 ha1 hres
  rw[hres]
  clear hres hT hX
  by_cases hn':n < 4
  ·have hnz:(n:Int) < 4:=by omega
   clear k1 k2 k3
   go_enter Tryz.func253,Tryz.ntmps253
   go_wp2
   all_goals
    go_ret2
    refine⟨?_,(zB _ _).alloc (zA _) _⟩
    unfold slowN
    repeat' split
    all_goals first
     | (exfalso;omega)
     | rfl
     | (simp only[Int.natCast_add,Int.natCast_mul,Int.natCast_emod,Int.natCast_ofNat];rfl)
  ·skip
   have hz1:(1:Int) < (n:Int):=by omega
   replace k1:=k1 (by omega)
   have hz2:(2:Int) < (n:Int):=by omega
   replace k2:=k2 (by omega)
   have hz3:(3:Int) < (n:Int):=by omega
   replace k3:=k3 (by omega)
   go_enter Tryz.func253,Tryz.ntmps253
   go_wp2
   all_goals
    go_ret2
    refine⟨?_,(zB _ _).alloc (zA _) _⟩
    unfold slowN
    repeat' split
    all_goals first
     | (exfalso;omega)
     | rfl
     | (simp only[Int.natCast_add,Int.natCast_mul,Int.natCast_emod,Int.natCast_ofNat];rfl)
 ·rw[hX]at hc0 hres
  have ha0:=(hT.2 4 (by omega)).1
  have ha1:=(hT.2 4 (by omega)).2
  simp only[accLo,accHi,Nat.reduceMul,Nat.reduceAdd,Nat.reduceEqDiff,if_true,if_false,Nat.reduceMod,Nat.reduceDiv]at ha0 ha1 hres
  rw[hres]
  clear hres hT hX
  by_cases hn':n < 4
  ·have hnz:(n:Int) < 4:=by omega
   clear k1 k2 k3
   go_enter Tryz.func253,Tryz.ntmps253
   go_wp2
   all_goals
    go_ret2
    refine⟨?_,(zB _ _).alloc (zA _) _⟩
    unfold slowN
    repeat' split
    all_goals first
     | (exfalso;omega)
     | rfl
     | (simp only[Int.natCast_add,Int.natCast_mul,Int.natCast_emod,Int.natCast_ofNat];rfl)
  ·skip
   have hz1:(1:Int) < (n:Int):=by omega
   replace k1:=k1 (by omega)
   have hz2:(2:Int) < (n:Int):=by omega
   replace k2:=k2 (by omega)
   have hz3:(3:Int) < (n:Int):=by omega
   replace k3:=k3 (by omega)
   go_enter Tryz.func253,Tryz.ntmps253
   go_wp2
   all_goals
    go_ret2
    refine⟨?_,(zB _ _).alloc (zA _) _⟩
    unfold slowN
    repeat' split
    all_goals first
     | (exfalso;omega)
     | rfl
     | (simp only[Int.natCast_add,Int.natCast_mul,Int.natCast_emod,Int.natCast_ofNat];rfl)
theorem vH (b o n c:Nat) (x0 x1 x2 x3:Nat) (w:World) (hn:1≤n) (hnm:n≤1099511627776) (l0:x0 < 256) (l1:x1 < 256) (l2:x2 < 256) (l3:x3 < 256) (hb0:128≤x0)
  (k0:w.cell? ⟨b,o,none⟩=some (.int .u8 x0)) (k1:1 < n→w.cell? ⟨b,o+1,none⟩=some (.int .u8 x1)) (k2:2 < n→w.cell? ⟨b,o+2,none⟩=some (.int .u8 x2)) (k3:3 < n→w.cell? ⟨b,o+3,none⟩=some (.int .u8 x3)) (hT:Lib.Utf8Tabs 1 2 w) :
  Calls Tryz.prog 238 #[.slice (some ⟨b,o,none⟩) n c] w fun e w'=>e=.returned (.tuple #[.int .i32 (decodeN n x0 x1 x2 x3).1,.int .i64 (decodeN n x0 x1 x2 x3).2])∧Below w.heap.size w w':=by
 have HC:=aH (vG b o n c x0 x1 x2 x3 w hn hnm l0 l1 l2 l3 hb0 k0 k1 k2 k3 hT)
 generalize (decodeN n x0 x1 x2 x3).1=r at *
 generalize (decodeN n x0 x1 x2 x3).2=k at *
 have hz0:(0:Int) < (n:Int):=by omega
 have hge:¬ ((x0:Int) < 128):=by omega
 clear k1 k2 k3 hT
 go_enter Tryz.func238,Tryz.ntmps238
 go_wp2_with fail
 go_loop [8] (fun i=>i=.int .i64 0) (fun _=>0)
 case atStart=>exact rfl
 case round =>
  subst hrel
  go_wp2_with fail
  refine HC.out.mono ?_
  rintro e w' ⟨rfl,hb⟩
  go_wp2
  go_ret2
  exact⟨rfl,hb⟩
end Go.Proofs.YthjeglnkgdpijaaGreatDoor
namespace Go.Proofs.YthjeglnkgdpijaaGreatDoor
open Go.RowKit
def pU (fs:List FD):Prop:=∀ f∈fs,f.1.size≤1099511627776∧f.2.size≤1099511627776
theorem vV (X:Option Addr) (n d:Nat) (fs:List FD) (name:ByteArray) (w:World) (hn:n≤1099511627776) (hl:fs.length=n) (hf:pU fs) (h2:name.size≤1099511627776) (hx:Rd w X n 2 (aI fs)) :
  Calls Tryz.prog 81 #[.slice X n d,.string name] w (dN w 9 1 (F.values fs name).length (aC (F.values fs name))):=by
 have HL:=aH hl
 clear hl
 go_enter Tryz.func81,Tryz.ntmps81
 go_wp2
 go_loopw [5,10] (fun o i wr=>∃ (k m:Nat) (A:Option Addr) (c:Nat),k≤n∧m≤k∧i=.int .i64 k∧o=.slice A m c∧m=(F.values (fs.take k) name).length∧Row wr w.heap.size 9 1 A m c (aC (F.values (fs.take k) name))∧Below w.heap.size w wr) (fun _ i _=>n - (intOf i).toNat)
 case atStart=>exact⟨0,0,none,0,zF _,zA _,rfl,rfl,rfl,Row.none_ _ _ _ _,zB _ _⟩
 case round =>
  obtain⟨k,m,A,c,hk,hmk,rfl,rfl,hm,hrow,hbel⟩:=hrel
  have HM:=aH hm
  clear hm
  by_cases hlt:k < n
  ·obtain⟨b,o,rfl,hb,c1,c2⟩:=(hx.below hbel).field hlt HL.out
   have hv:=F.aCG fs name k (by rw[HL.out];exact hlt)
   obtain⟨f,hfk⟩:∃ f,f=fs[k]'(by rw[HL.out];exact hlt):=⟨_,rfl⟩
   have hfs:=hf f (by rw[hfk];exact List.getElem_mem _)
   rw[← hfk]at hv c1 c2
   have HV:=aH hv
   clear hv hfk
   rcases tf (F.is f name) with his | his
   ·have hcc:=fun w=>(aNE f name w hfs.1 h2)
    rw[his]at hcc HV
    have hv:F.values (fs.take (k+1)) name=F.values (fs.take k) name++[f.2]:=by rw[HV.out];simp
    have HV:=aH hv
    clear hv
    go_wp2_with fail
    refine (hcc _).mono ?_
    rintro e w1 ⟨rfl,hb1⟩
    have hc1:=aOO hb1 1 rfl
    have hz1:=aN3 hb1
    have hr1:=hrow.new hb1
    have hB1:=nC hbel hbel.size hb1
    clear hb1 hrow hbel hcc
    go_wp2_with (at_builtin;refine aKJ _ rfl (.tmp 17) (.tmp 20) rfl w.heap.size A m c _ rfl (hr1.alloc _) _ 1 1 [f.2] rfl (aLH _ _) (by omega) (by have:=hB1.size;simp;omega) ?_;intro A1 c1 w2 hr2 ha2)
    go_roundw
    case rel =>
     refine⟨k+1,m+1,A1,c1,by omega,by omega,by go_num,rfl,?_,?_,?_⟩
     ·rw[HV.out,bC,HM.out];rfl
     ·rw[HV.out];exact hr2
     ·exact (hB1.alloc hB1.size _).trans (ha2.below (hr1.alloc _) (by have:=hB1.size;simp;omega))
    case measure=>simp [intOf];omega
   ·have hcc:=fun w=>(aNE f name w hfs.1 h2)
    rw[his]at hcc HV
    have hv:F.values (fs.take (k+1)) name=F.values (fs.take k) name:=by rw[HV.out];simp
    have HV:=aH hv
    clear hv
    go_wp2_with fail
    refine (hcc _).mono ?_
    rintro e w1 ⟨rfl,hb1⟩
    have hr1:=hrow.new hb1
    have hB1:=nC hbel hbel.size hb1
    clear hb1 hrow hbel hcc
    go_wp2
    go_roundw
    case rel=>exact⟨k+1,m,A,c,by omega,by omega,by go_num,rfl,by rw[HV.out,HM.out],by rw[HV.out];exact hr1,hB1⟩
    case measure=>simp [intOf];omega
  ·have hkn:k=n:=by omega
   have ht:fs.take k=fs:=List.take_of_length_le (by have:=HL.out;omega)
   rw[ht]at hrow
   have HM2:Hid (m=(F.values fs name).length):=by have:=HM.out;rw[ht]at this;exact this
   clear hkn ht HM
   go_wp2
   go_ret
   refine⟨A,c,?_,?_,hbel⟩
   ·rw[← HM2.out];rfl
   ·rw[← HM2.out];exact hrow
theorem aF3:∀ (c:UInt8) (n:Nat) (q:Bool) (cur l p:List UInt8),l.length≤n→p∈T.pieces c q cur l→p.length≤cur.length+l.length:=by
 intro c n
 induction n with
 | zero =>
  intro q cur l p h hp
  have:l=[]:=List.eq_nil_of_length_eq_zero (by omega)
  subst this
  simp [T.pieces]at hp
  subst hp;simp
 | succ n ih =>
  intro q cur l p h hp
  cases l with
  | nil=>simp [T.pieces]at hp;subst hp;simp
  | cons x r =>
   rw[T.iY]at hp
   simp only[List.length_cons]at h ⊢
   split at hp
   ·cases r with
    | nil=>simp at hp;subst hp;simp
    | cons y r' =>
     have:=ih q (cur++[x,y]) r' p (by simp at h;omega) hp
     simp at this ⊢;omega
   ·split at hp
    ·have:=ih (!q) (cur++[x]) r p (by omega) hp;simp at this;omega
    ·split at hp
     ·rcases List.mem_cons.1 hp with rfl | hp
      ·omega
      ·have:=ih q [] r p (by omega) hp;simp at this;omega
     ·have:=ih q (cur++[x]) r p (by omega) hp;simp at this;omega
theorem aII {c:UInt8} {s p:ByteArray} (h:p∈F.split c s):p.size≤s.size:=by
 unfold F.split at h
 obtain⟨q,hq,rfl⟩:=List.mem_map.1 h
 have:=aF3 c _ false [] (L s) q (zA _) hq
 have h2:=T.xU q
 rw[iK,aQ s];simp at this;omega
theorem aEK {s p:ByteArray} (h:p∈F.list s):p.size≤s.size:=aII (List.mem_filter.1 h).1
theorem oU {fs:List FD} {name:ByteArray} (hf:pU fs):∀ v∈F.values fs name,v.size≤1099511627776:=by
 intro v hv
 unfold F.values at hv
 obtain⟨f,hfm,rfl⟩:=List.mem_map.1 hv
 exact (hf f (List.mem_filter.1 hfm).1).2
theorem aFF (X:Option Addr) (n d:Nat) (fs:List FD) (name:ByteArray) (w:World) (hn:n≤1099511627776) (hl:fs.length=n) (hf:pU fs) (h2:name.size≤1099511627776) (htot:(F.tokens fs name).length≤1099511627776) (hx:Rd w X n 2 (aI fs)) :
  Calls Tryz.prog 78 #[.slice X n d,.string name] w (dN w 9 1 (F.tokens fs name).length (aC (F.tokens fs name))):=by
 go_enter Tryz.func78,Tryz.ntmps78
 go_wp2_with fail
 refine (vV X n d fs name _ hn hl hf h2 hx).mono ?_
 rintro e w1 ⟨Y,dy,rfl,hY,hb1⟩
 have hsm:∀ v∈F.values fs name,v.size≤1099511627776:=oU hf
 have hfin:=F.aHN fs name
 have hle:=F.zZ fs name
 rw[hl]at hle
 obtain⟨vs,hvs⟩:∃ vs,vs=F.values fs name:=⟨_,rfl⟩
 rw[← hvs]at hY hle hsm hfin ⊢
 rw[hfin]at htot
 obtain⟨nv,hnv⟩:∃ nv,nv=vs.length:=⟨_,rfl⟩
 rw[← hnv]at hY hle ⊢
 have HV:=aH hvs;clear hvs
 have HN:=aH hnv;clear hnv
 have HF:=aH hfin;clear hfin
 have HS:=aH hsm;clear hsm
 have HL:=aH hl;clear hl
 have hy:=hY.rd
 clear hY hx hf
 have hnn:nv≤1099511627776:=bD hle hn
 go_wp2
 go_loopw [5,7,9,14,21] (fun o _ _ i _ wr=>∃ (k m:Nat) (A:Option Addr) (c:Nat),k≤nv∧i=.int .i64 k∧o=.slice A m c∧m=(F.toks (vs.take k)).length∧Row wr w1.heap.size 9 1 A m c (aC (F.toks (vs.take k)))∧Below w1.heap.size w1 wr) (fun _ _ _ i _ _=>n - (intOf i).toNat)
 case atStart=>exact⟨0,0,none,0,zF _,rfl,rfl,rfl,Row.none_ _ _ _ _,zB _ _⟩
 case round =>
  obtain⟨k,m,A,c,hk,rfl,rfl,hm,hrow,hbel⟩:=hrel
  have HM:=aH hm
  clear hm
  by_cases hlt:k < nv
  ·have hkl:k < vs.length:=by rw[← HN.out];exact hlt
   obtain⟨b,o,rfl,hb,c1⟩:=(hy.below hbel).str hlt HN.out.symm
   have hsn:=F.aHM vs k hkl
   have hle1:=F.aNY vs (k+1)
   have hsx:=HS.out _ (List.getElem_mem hkl)
   obtain⟨x,hxk⟩:∃ x,x=vs[k]'hkl:=⟨_,rfl⟩
   rw[← hxk]at hsn c1 hsx
   clear hxk
   have hlen:m+(F.list x).length≤1099511627776:=by
    rw[hsn,bC,List.length_map]at hle1
    rw[HM.out];omega
   have HSN:=aH hsn;clear hsn hle1
   go_wp2_with fail
   refine (aEM x _ hsx).mono ?_
   rintro e w2 ⟨E,de,rfl,hE,hb2⟩
   have hr2:=hrow.below hb2
   have hB2:=aA hbel.size hbel hb2
   have hz2:=hbel.size
   have hz3:=hb2.size
   have hsep0:=Sep.fresh hrow hE
   have hes:∀ p∈F.list x,p.size≤1099511627776:=fun p hp=>bD (aEK hp) hsx
   obtain⟨es,hxs⟩:∃ es,es=F.list x:=⟨_,rfl⟩
   rw[← hxs]at hE hsep0 hes hlen HSN ⊢
   obtain⟨ne,hne⟩:∃ ne,ne=es.length:=⟨_,rfl⟩
   rw[← hne]at hE hsep0 hlen ⊢
   have HNE:=aH hne
   have HES:=aH hes
   have HE:=aH hE.rd
   have HSEP:=aH hsep0
   clear hb2 hrow hbel hxs hne hes hE hsep0
   go_wp2
   go_loopw [5,9,21] (fun o _ i wi=>∃ (j m':Nat) (A':Option Addr) (c':Nat),j≤ne∧i=.int .i64 j∧o=.slice A' m' c'∧m'=m+j∧Row wi w1.heap.size 9 1 A' m' c' (aC (F.toks (vs.take k)++(es.take j).map fun el=>B (T.fold (L el))))∧Rd wi E ne 1 (aC es)∧Sep A' c' E ne∧Below w1.heap.size w1 wi) (fun _ _ i _=>ne - (intOf i).toNat)
   case atStart=>exact⟨0,m,A,c,zF _,rfl,rfl,rfl,by simpa using hr2,HE.out,HSEP.out,hB2⟩
   case round =>
    clear hr2 hB2
    obtain⟨j,m',A',c',hj,rfl,rfl,hm',hrow,hrd,hsep,hbel⟩:=hrel
    have hml:m'≤1099511627776:=by omega
    have hmm:m'=m+j:=hm'
    have HM':=aH hm'
    clear hm'
    by_cases hlt2:j < ne
    ·have hjl:j < es.length:=by rw[← HNE.out];exact hlt2
     obtain⟨b2,o2,rfl,hb2,c2⟩:=hrd.str hlt2 HNE.out.symm
     have hsy:=HES.out _ (List.getElem_mem hjl)
     have hsn2:=aLL (fun el=>B (T.fold (L el))) es j hjl
     obtain⟨y,hyj⟩:∃ y,y=es[j]'hjl:=⟨_,rfl⟩
     rw[← hyj]at c2 hsy hsn2
     clear hyj hmm
     have HSN2:=aH hsn2;clear hsn2
     go_wp2_with fail
     refine (qP y _ hsy).mono ?_
     rintro e w3 ⟨rfl,hb3⟩
     have hr3:=hrow.below hb3
     have hd3:=hrd.below hb3
     have hB3:=aA hbel.size hbel hb3
     have hz4:=hbel.size
     have hz5:=hb3.size
     clear hb3 hrow hbel hrd
     go_wp2_with (at_builtin;refine aKJ _ rfl (.tmp 25) (.tmp 28) rfl w1.heap.size A' m' c' _ rfl (hr3.alloc _) _ 1 1 _ rfl (aLH _ _) (by omega) (by simp;omega) ?_;intro A1 c1 w4 hr4 ha4)
     go_roundw
     case rel =>
      refine⟨j+1,m'+1,A1,c1,by omega,by go_num,rfl,by rw[HM'.out];omega,?_,?_,?_,?_⟩
      ·rw[HSN2.out,← List.append_assoc];exact hr4
      ·exact ha4.rd (hd3.alloc _) hsep
      ·exact ha4.sep (hd3.alloc _) hsep
      ·exact (hB3.alloc (by omega) _).trans (ha4.below (hr3.alloc _) (by simp;omega))
     case measure=>simp [intOf];omega
    ·have hjn:j=ne:=by omega
     have ht:es.take j=es:=List.take_of_length_le (by rw[← HNE.out];omega)
     rw[ht,← HSN.out]at hrow
     have hmf:m'=(F.toks (vs.take (k+1))).length:=by rw[HSN.out,bC,List.length_map,← HNE.out,← HM.out,← hjn];exact HM'.out
     have HMF:=aH hmf
     clear hjn ht hmf hmm
     go_wp2
     go_roundw
     case rel=>exact⟨k+1,m',A',c',by omega,by go_num,rfl,HMF.out,hrow,hbel⟩
     case measure=>simp [intOf];omega
  ·have ht:vs.take k=vs:=List.take_of_length_le (by have:=HN.out;omega)
   rw[ht]at hrow
   have HM2:Hid (m=(F.tokens fs name).length):=by have:=HM.out;rw[ht]at this;rw[HF.out];exact this
   clear ht HM
   go_wp2
   go_ret
   refine⟨A,c,?_,?_,hb1.trans (hbel.mono hb1.size)⟩
   ·rw[← HM2.out];rfl
   ·rw[← HM2.out,HF.out];exact hrow.mono hb1.size
end Go.Proofs.YthjeglnkgdpijaaGreatDoor
