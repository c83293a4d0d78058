/- The walk of the law's begin: a cache over a new disk, or over none. A cache over a disk without faults: what it gives is what the store gives, whatever memory holds. Conditions: as each theorem states them. -/
import Derived.Test.YthjeglnkgdpijaaGreatDoorCacheI
import Derived.Test.YthjeglnkgdpijaaGreatDoorCacheH
import Derived.Test.YthjeglnkgdpijaaGreatDoorKeepS
set_option maxHeartbeats 4000000
set_option maxRecDepth 100000
namespace Go.Proofs.YthjeglnkgdpijaaGreatDoor
open Go Go.RowKit Go.Maps
namespace S
theorem wH {P:D.Dsk→Prop}:∀ (l:List (D.Dsk→D.Dsk × Int)) {d:D.Dsk},(∀ f∈l,∀ d,P d→P (f d).1)→P d→P (steps d l).1
 | [],_,_,h=>h
 | f::r,d,hf,h=>by
  have h1:=hf f (by simp) d h
  unfold steps
  split
  ·exact h1
  ·exact wH r (fun g hg=>hf g (List.mem_cons_of_mem _ hg)) h1
def Lone (d:D.Dsk):Prop:=∀ p∈d.now,p.1=bM
theorem aDA {d:D.Dsk} (h:Lone d):Lone (steps d bZ).1:=by
 refine wH bZ (fun f hf d h=>?_) h
 unfold bZ at hf
 simp only[List.mem_cons,List.not_mem_nil,or_false]at hf
 rcases hf with rfl | rfl | rfl
 ·obtain⟨n,hn⟩:=d.begin_as [bM]
  dsimp only
  unfold D.Dsk.create
  cases hbe:d.begin [bM] with
  | mk s1 e =>
   rw[hbe]at hn
   dsimp only at hn ⊢
   subst hn
   split
   ·exact h
   ·split
    ·exact h
    ·intro p hp
     rcases D.cZ.1 hp with rfl | ⟨hp,_⟩
     ·rfl
     ·exact h p hp
 ·obtain⟨n,hn⟩:=d.begin_as ([]++[bM])
  dsimp only
  unfold D.Dsk.sync D.Dsk.on
  cases hbe:d.begin ([]++[bM]) with
  | mk s1 e =>
   rw[hbe]at hn
   dsimp only at hn ⊢
   subst hn
   split
   ·exact h
   ·split
    ·exact h
    ·exact h
 ·obtain⟨n,hn⟩:=d.begin_as []
  dsimp only
  unfold D.Dsk.syncNames
  cases hbe:d.begin [] with
  | mk s1 e =>
   rw[hbe]at hn
   dsimp only at hn ⊢
   subst hn
   split
   ·exact h
   ·exact h
theorem aIO {d:D.Dsk} (h:Lone d):∀ nm∈d.list,isO nm=false∧nm.size≤4096:=by
 intro nm hm
 unfold D.Dsk.list at hm
 split at hm
 ·cases hm
 ·obtain⟨p,hp,rfl⟩:=List.mem_map.1 hm
  rw[h p hp]
  exact⟨by decide,by decide⟩
theorem aE5 {room:Int} {fails:List Int} (power:Int) (h:0≤room∧room≤1073741824) (hf:fails.length≤1099511627776):D.Fit 0 (D.bare room fails power) :=
 ⟨⟨(fun _ h=>by cases h),(fun _ h=>by cases h),(fun _ h=>by cases h)⟩,⟨rfl,List.Pairwise.nil,List.Pairwise.nil,(fun _ h=>by cases h),(fun _ h=>by cases h),(fun _ h=>by cases h),rfl,fun _ h=>absurd h (Nat.not_lt_zero _)⟩,Int.le_refl _,Int.le_refl _,zA _,zA _,zA _,hf,h,fun no=>by unfold D.Dsk.size D.bare;simp⟩
theorem aMP (room:Int) (fails:List Int) (power:Int):has (D.bare room fails power).list dB=false:=by
 unfold D.Dsk.list
 split<;>rfl
theorem aJW (room:Int) (fails:List Int) (power:Int):(D.bare room fails power).read bM=([],if (D.bare room fails power).down=true then 93 else 90):=by
 unfold D.Dsk.read
 cases (D.bare room fails power).down with
 | true=>rfl
 | false=>rw[if_neg (by decide),if_neg (by rw[dP];decide)];rfl
end S
namespace C
def start (space:Int) (fails:List Int) (power slots:Int):Option (Option S.Sto) :=
 if slots < 0 then some none
 else if ¬ (0≤space∧space≤1073741824)∨4096 < slots∨(D.bare space fails power).down=true∨(S.steps (D.bare space fails power) S.bZ).2.2≠0 then none
 else some (some ⟨(S.steps (D.bare space fails power) S.bZ).1,0,[],S.marks slots.toNat []⟩)
end C
theorem fG.lower {B B' t m room:Nat} {w:World} (h:fG B t m room [] w) (hB:B'≤B):fG B' t m room [] w :=
 ⟨h.ring,h.tabc,h.node,h.items,(fun x hx=>by cases hx),h.one,h.fits,h.pos,h.small,⟨bD hB h.ge.1,bD hB h.ge.2.1,fun x hx=>by cases hx⟩⟩
def aM5 (mem:Int) (o:Option (Option S.Sto)) (w:World) (e:Ending) (w':World):Prop:=match o with
 | none=>∃ code:Int,code≠0∧e=.returned (.tuple #[.pointer none,.pointer none,.int .i64 code])∧Below w.heap.size w w'
 | some so=>∃ B Z pd,e=.returned (.tuple #[.pointer (some ⟨Z.c,0,none⟩),.pointer pd,.int .i64 0])∧CAt B (Lr.roomOf mem) Z ⟨so,[],[]⟩ w'∧w.heap.size≤B∧B≤w'.heap.size∧Below w.heap.size w w'∧(so.isSome=true→pd.isSome=true)
theorem vI (w:World):Calls Tryz.prog 24 #[.slice none 0 0] w (fun e w'=>∃ A c,e=.returned (.slice A 0 c)∧Below w.heap.size w w'):=by
 go_enter Tryz.func24,Tryz.ntmps24
 go_wp2
 go_loopw [3,4] (fun o i wr=>o=.slice (some ⟨w.heap.size,0,none⟩) 0 0∧i=.int .i64 0∧wr=w.alloc (.cells #[] 97)) (fun _ _ _=>0)
 case atStart=>exact⟨rfl,rfl,rfl⟩
 case round =>
  obtain⟨rfl,rfl,rfl⟩:=hrel
  go_wp2
  go_ret
  exact⟨_,_,rfl,(zB _ _).alloc (zA _) _⟩
theorem jS (space:Int) (FA:Option Addr) (fc:Nat) (fails:List Int) (power slots mem:Int) (w:World) (hn:fails.length≤1099511627776) (hx:Rd w FA fails.length 1 (fH fails)) :
  Calls Tryz.prog 7 #[.agg #[.slice none 0 0,.int .i64 space,.slice FA fails.length fc,.int .i64 power,.int .i64 slots,.int .i64 mem]] w (aM5 mem (C.start space fails power slots) w):=by
 obtain⟨fn,hfn⟩:∃ fn,fails.length=fn:=⟨_,rfl⟩
 have HFN:=aH hfn
 rw[hfn]at hx hn ⊢
 obtain⟨w0,hw0⟩:∃ w0,w.alloc (.cells #[.slice none 0 0,.int .i64 space,.slice FA fn fc,.int .i64 power,.int .i64 slots,.int .i64 mem] 25)=w0:=⟨_,rfl⟩
 have hb0:Below w.heap.size w w0:=by rw[← hw0];exact (zB _ _).alloc (zA _) _
 have hk0:Blk w0 w.heap.size #[.slice none 0 0,.int .i64 space,.slice FA fn fc,.int .i64 power,.int .i64 slots,.int .i64 mem] 25:=by rw[← hw0];exact Blk.new w _ _
 have HK0:=aH hk0
 have HB0:=aH hb0
 have HX0:=aH (hx.below hb0)
 have y2:=hk0.cell 2 rfl
 have y4:=hk0.cell 4 rfl
 have y5:=hk0.cell 5 rfl
 clear hfn hb0 hk0 hx
 by_cases hs:slots < 0
 ·have HST:Hid (C.start space fails power slots=some none):=aH (if_pos hs)
  have HCN:=aH (pJ none mem w0)
  go_enter Tryz.func7,Tryz.ntmps7
  go_wp2_with fail
  clear hw0
  refine HCN.out.mono ?_
  rintro e w1 ⟨c,t,m,hm,rfl,h1,h2,h3,h4,h5,h6,h7⟩
  have HC:=aH (show CAt w0.heap.size (Lr.roomOf mem) ⟨c,t,m,hm,⟨⟨0,0,0,none,0,[],fun _=>0,fun _=>none,fun _=>0,none,0⟩,0,0,0,none,0⟩⟩ ⟨none,[],[]⟩ w1 from
   ⟨h3,(fun s hs=>by cases hs),h1,h2,List.Pairwise.nil,h4,(fun s hs=>by cases hs),(fun s hs=>by cases hs),⟨h5,h6⟩⟩)
  have HB1:=aH (aA HB0.out.size HB0.out h7)
  have HS1:=aH h7.size
  clear h1 h2 h3 h4 h5 h6 h7 HCN y2 y4 y5
  go_wp2
  (try simp only[Exit.inBlock,Exit.then])
  refine bK (results_tmp3 rfl _ _ _) rfl ?_
  rw[HST.out]
  exact⟨_,_,none,rfl,HC.out,HB0.out.size,HS1.out,HB1.out,fun h=>by cases h⟩
 have hs2:¬ slots < 0:=hs
 have HSL:=aH hs
 have HSTE:Hid (¬ (0≤space∧space≤1073741824)∨4096 < slots∨(D.bare space fails power).down=true∨(S.steps (D.bare space fails power) S.bZ).2.2≠0→C.start space fails power slots=none):=aH (fun h=>by unfold C.start;rw[if_neg hs,if_pos h])
 clear hs
 go_enter Tryz.func7,Tryz.ntmps7
 have hbe:Below w0.heap.size w0 (w0.alloc (.cells #[] 3)):=(zB _ _).alloc (zA _) _
 have HBE:=aH hbe
 have HXE:=aH (HX0.out.below hbe)
 have y2e:=(HK0.out.below hbe).cell 2 rfl
 clear hbe
 have hn3:0+fn≤2199023255552:=by omega
 go_wp2_with (at_builtin;refine appI _ rfl _ _ rfl w0.heap.size _ 0 0 [] rfl (Row.empty _ _ _ _ _) FA fn fc fails rfl HXE.out hn3 (by rw[bJ];omega) ?_;intro A1 c1 w1 hr1 ha1;simp only[Nat.zero_add,List.nil_append]at hr1 ⊢;have HB1:=aH (aA HB0.out.size HB0.out (((zB _ w0).alloc (zA _) _).trans (ha1.below (Row.empty _ _ 3 1 _) (by simp))));have HK1:=aH ((HK0.out.below (((zB _ w0).alloc (zA _) _).trans (ha1.below (Row.empty _ _ 3 1 _) (by simp)))));have HR1:=aH hr1;clear hr1 ha1 y2 y4 y5 y2e hw0 HBE HXE HX0)
 have hS0:Below w1.heap.size w1 w1.drew:=(zB _ _).drew
 refine wp_region_noPanic ?_
 refine HT.begin (n:=13) (S:=(fun u=>Below w1.heap.size w1 u)) (by kernel_rfl) hS0 ?_
 generalize w1.drew=w2 at *
 refine HT.take 0 (.pointer (some ⟨w.heap.size,0,none⟩)) rfl (by kernel_rfl) (fun _ _ _ h=>h) (Or.inl ⟨by rfl,?_⟩) ?_
 ·intro u hu
  go_simp
 refine HT.take 1 (.slice none 0 0) rfl (by kernel_rfl) (fun _ _ _ h=>h) (Or.inl ⟨by rfl,?_⟩) ?_
 ·intro u hu
  have y0:=(HK1.out.below hu).cell 0 rfl
  go_simp
 refine HT.take 3 (.pointer (some ⟨w.heap.size,1,none⟩)) rfl (by kernel_rfl) (fun _ _ _ h=>h) (Or.inl ⟨by rfl,?_⟩) ?_
 ·intro u hu
  go_simp
 refine HT.take 4 (.int .i64 space) rfl (by kernel_rfl) (fun _ _ _ h=>h) (Or.inl ⟨by rfl,?_⟩) ?_
 ·intro u hu
  have y1:=(HK1.out.below hu).cell 1 rfl
  go_simp
 refine HT.take 5 (.slice A1 fn c1) rfl (by kernel_rfl) (fun _ _ _ h=>h) (Or.inl ⟨by rfl,?_⟩) ?_
 ·intro u hu
  go_simp
 refine HT.take 6 (.pointer (some ⟨w.heap.size,3,none⟩)) rfl (by kernel_rfl) (fun _ _ _ h=>h) (Or.inl ⟨by rfl,?_⟩) ?_
 ·intro u hu
  go_simp
 refine HT.take 7 (.int .i64 power) rfl (by kernel_rfl) (fun _ _ _ h=>h) (Or.inl ⟨by rfl,?_⟩) (?_:HT _ _ _ _ _ _ _ ⟨#[_,_,_,_,_,_,_,_,_,_,_,_,_,_,_,_,_,_,_,_,_,.pointer (some ⟨w.heap.size,0,none⟩),.slice none 0 0,_,.pointer (some ⟨w.heap.size,1,none⟩),.int .i64 space,.slice A1 fn c1,.pointer (some ⟨w.heap.size,3,none⟩),.int .i64 power,_,_,_,_,_,_,_,_,_,_,_,_,_,_,_,_,_,_,_,_,_,_,_,_,_,_,_,_,_],[]⟩ _)
 ·intro u hu
  have y3:=(HK1.out.below hu).cell 3 rfl
  go_simp
 refine HT.step 2 rfl (by kernel_rfl) (fun hS K hK=>?_)
 go_simp
 refine (vI w2).mono ?_
 rintro e w3 ⟨A2,c2,rfl,hb3⟩
 have HB3:=aH (aA hS.size hS hb3)
 refine hK.out _ _ HB3.out ?_
 clear hK hS hb3
 refine HT.step 8 rfl (by kernel_rfl) (fun hS K hK=>?_)
 go_simp
 have hrF:=(HR1.out.below HB3.out)
 refine (by
  have hq:=aLI A2 c2 A1 c1 fails space power w3 (by rw[HFN.out];exact hn) (by rw[HFN.out];exact hrF.rd) (fun hA=>by rw[HFN.out];exact hrF.nilC hA)
  rw[HFN.out]at hq
  exact hq:Calls Tryz.prog 23 #[.slice A2 0 c2,.int .i64 space,.slice A1 fn c1,.int .i64 power] w3 (aKA w3 space fails power)).mono ?_
 rintro e w4 hret
 obtain⟨pd,code,rfl,hb4,hnw⟩:∃ (pd:Option Addr) (code:Int),e=.returned (.tuple #[.pointer pd,.int .i64 code])∧Below w3.heap.size w3 w4∧((code=131∧pd=none∧¬ (0≤space∧space≤1073741824))∨(code=0∧0≤space∧space≤1073741824∧∃ M,pd=some ⟨M.d,0,none⟩∧bU w3.heap.size M (D.bare space fails power) w4)):=by
  rcases hret with ⟨h1,rfl,h2⟩ | ⟨h1,h2,M,rfl,h3,h4⟩
  ·exact⟨none,131,rfl,h2,.inl ⟨rfl,rfl,h1⟩⟩
  ·exact⟨_,0,rfl,h4,.inr ⟨rfl,h1,h2,M,rfl,h3⟩⟩
 have HNW:=aH hnw
 have HB4:=aH (aA HB3.out.size HB3.out hb4)
 have HS34:=aH hb4.size
 refine hK.out _ _ HB4.out ?_
 clear hK hS hret hb4 hnw hrF
 refine HT.take 9 (.tuple #[.pointer pd,.int .i64 code]) rfl (by kernel_rfl) (fun _ _ _ h=>h) (Or.inl ⟨by rfl,?_⟩) ?_
 ·intro u hu
  go_simp
 refine HT.take 10 (.pointer pd) rfl (by kernel_rfl) (fun _ _ _ h=>h) (Or.inl ⟨by rfl,?_⟩) ?_
 ·intro u hu
  go_simp
 refine HT.take 11 (.int .i64 code) rfl (by kernel_rfl) (fun _ _ _ h=>h) (Or.inl ⟨by rfl,?_⟩) ?_
 ·intro u hu
  go_simp
 refine HT.take 12 (.pointer pd) rfl (by kernel_rfl) (fun _ _ _ h=>h) (Or.inl ⟨by rfl,?_⟩) (?_:HT _ _ _ _ _ _ _ ⟨#[_,_,_,_,_,_,.pointer pd,_,_,_,_,_,_,_,_,_,_,_,_,_,.tuple #[.pointer pd,.int .i64 code],.pointer (some ⟨w.heap.size,0,none⟩),.slice none 0 0,.slice A2 0 c2,.pointer (some ⟨w.heap.size,1,none⟩),.int .i64 space,.slice A1 fn c1,.pointer (some ⟨w.heap.size,3,none⟩),.int .i64 power,.tuple #[.pointer pd,.int .i64 code],.pointer pd,.int .i64 code,_,_,_,_,_,_,_,_,_,_,_,_,_,_,_,_,_,_,_,_,_,_,_,_,_,_],[]⟩ _)
 ·intro u hu
  go_simp
 refine HT.tail _ rfl rfl (by kernel_rfl) (fun hS=>?_)
 clear hS hS0
 have HBA:=aH (aA HB1.out.size HB1.out HB4.out)
 have HKA:=aH (HK1.out.below HB4.out)
 have HZ3:Hid (w.heap.size < w3.heap.size):=aH (Nat.lt_of_lt_of_le HK1.out.lt HB3.out.size)
 clear HB1 HB3 HB4 HK1 HR1 HK0 HB0
 rcases HNW.out with ⟨rfl,rfl,hbad⟩ | ⟨rfl,hr0,hr1,M,rfl,hd⟩
 ·have HST:=aH (HSTE.out (.inl hbad))
  clear hbad HNW
  go_wp2
  refine NoPanic.normal ?_
  go_wp2
  (try simp only[Exit.inBlock,Exit.then])
  refine bK (results_tmp3 rfl _ _ _) rfl ?_
  rw[HST.out]
  exact⟨131,by decide,rfl,HBA.out⟩
 have HD:=aH hd
 have HR0:=aH (show 0≤space∧space≤1073741824 from⟨hr0,hr1⟩)
 have y4:=HKA.out.cell 4 rfl
 have y5:=HKA.out.cell 5 rfl
 clear hd hr0 hr1 HNW
 by_cases hsl:4096 < slots
 ·have HST:=aH (HSTE.out (.inr (.inl hsl)))
  have HOP:=aH (aC3 (.pointer (some ⟨M.d,0,none⟩)) slots w4 (.inr hsl))
  go_wp2
  refine NoPanic.normal ?_
  go_wp2_with fail
  refine HOP.out.mono ?_
  rintro e w5 ⟨rfl,rfl⟩
  clear HOP
  go_wp2
  (try simp only[Exit.inBlock,Exit.then])
  refine bK (results_tmp3 rfl _ _ _) rfl ?_
  rw[HST.out]
  exact⟨131,by decide,rfl,HBA.out⟩
 obtain⟨n,hsn⟩:∃ n:Nat,slots=n:=⟨slots.toNat,by omega⟩
 subst hsn
 have hn4:n≤4096:=by omega
 have HOP:=aH (aIA w3.heap.size M (D.bare space fails power) 0 n w4 HD.out (S.aE5 power HR0.out (by rw[HFN.out];exact hn)) (by omega) (S.aMP _ _ _) (S.aJW _ _ _) (S.aIO (S.aDA (fun _ h=>by cases h))) hn4)
 have HUN:=aH (fun k (hk:M.foot (D.bare space fails power) k)=>HD.out.under hk)
 have HDB:=aH HD.out.base
 go_wp2
 refine NoPanic.normal ?_
 go_wp2_with fail
 refine HOP.out.mono ?_
 rintro e w5 (⟨code,hc,hcs,rfl,hw5⟩ | ⟨hdn,hs0,X,d3,hd3,rfl,hst,hw5,hxd⟩)
 ·have HST:=aH (HSTE.out (by
   cases hdw:(D.bare space fails power).down with
   | true=>exact .inr (.inr (.inl rfl))
   | false=>exact .inr (.inr (.inr (hcs hdw)))))
  have HC:=aH hc
  have hcb:(code != 0)=true:=bne_iff_ne.2 hc
  have HB5:=aH (HBA.out.trans ((hw5.under HUN.out HDB.out).mono (Nat.le_of_lt HZ3.out)))
  clear hcs hw5 HOP
  go_wp2
  (try simp only[Exit.inBlock,Exit.then])
  refine bK (results_tmp3 rfl _ _ _) rfl ?_
  rw[HST.out]
  exact⟨code,HC.out,rfl,HB5.out⟩
 ·have HST:Hid (C.start space fails power n=some (some ⟨d3,0,[],S.marks n []⟩)):=aH (by
   unfold C.start
   rw[if_neg (Int.not_lt.2 HSL.out),if_neg (by
    rintro (h | h | h | h)
    ·exact h HR0.out
    ·omega
    ·rw[hdn]at h;cases h
    ·exact h hs0),hd3,Int.toNat_natCast])
  have HB5:=aH (HBA.out.trans ((hw5.under HUN.out HDB.out).mono (Nat.le_of_lt HZ3.out)))
  have HS5:=aH hst
  have hk5:=hw5.blk HKA.out (fun hf=>by have h1:=HUN.out _ hf;have h2:=HZ3.out;omega)
  have y5:=hk5.cell 5 rfl
  have HCN:=aH (pJ (some ⟨X.st,0,none⟩) mem w5)
  have HBW:Hid (w3.heap.size≤w5.heap.size):=aH (bD HDB.out hw5.size)
  clear hdn hs0 hd3 hst hw5 hxd hk5 HOP
  go_wp2_with fail
  refine HCN.out.mono ?_
  rintro e w6 ⟨c,t,m,hm,rfl,h1,h2,h3,h4,h5,h6,h7⟩
  have HC:=aH (show CAt w3.heap.size (Lr.roomOf mem) ⟨c,t,m,hm,X⟩ ⟨some ⟨d3,0,[],S.marks n []⟩,[],[]⟩ w6 from
   ⟨h3,(fun s hs=>by cases hs;exact HS5.out.below h7),h1.lower HBW.out,h2,List.Pairwise.nil,h4,(fun s hs=>by
    cases hs
    refine⟨fun hf=>?_,fun hf=>?_⟩
    ·have h8:hm < w5.heap.size:=HS5.out.lt hf
     omega
    ·have h8:m < w5.heap.size:=HS5.out.lt hf
     have h9:=h1.ge.2.1
     omega),(fun s _ x hx=>by cases hx),⟨bD HBW.out h5,bD HBW.out h6⟩⟩)
  have HB6:=aH (aA HB5.out.size HB5.out h7)
  have HS6:=aH (bD HBW.out h7.size)
  clear h1 h2 h3 h4 h5 h6 h7 HCN
  go_wp2
  (try simp only[Exit.inBlock,Exit.then])
  refine bK (results_tmp3 rfl _ _ _) rfl ?_
  rw[HST.out]
  exact⟨_,_,_,rfl,HC.out,Nat.le_of_lt HZ3.out,HS6.out,HB6.out,fun _=>rfl⟩
end Go.Proofs.YthjeglnkgdpijaaGreatDoor
namespace Go.Proofs.YthjeglnkgdpijaaGreatDoor
namespace S
theorem aME {l:D.NM} {p:ByteArray × Nat} (h:p∈l):(D.del l p.1).length+1≤l.length:=by
 unfold D.del
 have:=List.length_filter_lt_length_iff_exists (l:=l) (p:=fun q:ByteArray × Nat=>decide (q.1≠p.1))
 have h2:=this.2 ⟨p,h,by simp⟩
 omega
theorem aH5 (s:Sto) (E:O.Ent):(s.put E).1.tab.length≤s.tab.length+1:=by
 unfold Sto.put
 split
 ·exact Nat.le_succ _
 ·split
  ·exact Nat.le_succ _
  ·split
   ·exact Nat.le_succ _
   ·rename_i no _
    unfold Sto.entered
    generalize (if (lay s.d (path no) (gY E)).2.2=0 then add (lay s.d (path no) (gY E)).1 s.count 1 no (aV E) else ((lay s.d (path no) (gY E)).1,s.count,(lay s.d (path no) (gY E)).2.2))=y
    dsimp only
    split
    ·exact Nat.le_succ _
    ·rw[xY]
     unfold Sto.took
     dsimp only
     refine bD (D.fP _ _ _) ?_
     unfold Sto.freed
     split<;>exact zA _
end S
namespace C
section
variable {a b:CSt} {key:ByteArray} {ask:List FD} {v:Vw} {s:S.Sto} {n i:Nat} {l l':List It} {E:O.Ent} {id:ByteArray} {w0:World}
theorem aFY (h:∀ id,entry a id=entry b id) (l:List ByteArray):pick a key ask l=pick b key ask l:=by
 have h2:lZ a key ask=lZ b key ask:=by
  funext o id
  unfold lZ better
  rw[h id]
 unfold pick
 rw[h2]
def aKD (a:CSt) (key:ByteArray) (ask:List FD) (id:ByteArray) (E:O.Ent):Prop:=entry a id=some E∧E.k=key∧V.matches E ask=true
theorem sK (a:CSt) (key:ByteArray) (ask:List FD) (l:List ByteArray) :
  (pick a key ask l=none∧∀ id∈l,∀ E,¬ aKD a key ask id E)∨∃ id∈l,∃ E,pick a key ask l=some (id,E)∧aKD a key ask id E∧∀ id'∈l,∀ E',aKD a key ask id' E'→E'.got≤E.got:=by
 have key2:∀ k,k≤l.length→(pick a key ask (l.take k)=none∧∀ id∈l.take k,∀ E,¬ aKD a key ask id E)∨∃ id∈l.take k,∃ E,pick a key ask (l.take k)=some (id,E)∧aKD a key ask id E∧∀ id'∈l.take k,∀ E',aKD a key ask id' E'→E'.got≤E.got:=by
  intro k
  induction k with
  | zero=>exact fun _=>.inl ⟨rfl,fun _ h=>by cases h⟩
  | succ k ih =>
   intro hk
   have hk2:k < l.length:=hk
   have ih2:=ih (Nat.le_of_lt hk2)
   rw[aA3 a key ask l k hk2]
   have hmem:∀ x,x∈l.take (k+1)↔x∈l.take k∨x=l[k]:=fun x=>by rw[bI hk2,List.mem_append,List.mem_singleton]
   generalize l[k]=y at *
   generalize pick a key ask (l.take k)=o at *
   generalize l.take k=l1 at *
   generalize l.take (k+1)=l2 at *
   have hfit:∀ E,aKD a key ask y E→(o=none∨∃ b,o=some b∧b.2.got≤E.got)→lZ a key ask o y=some (y,E):=fun E hE ho=>by
    obtain⟨h1,h2,h3⟩:=hE
    unfold lZ better
    rw[h1]
    dsimp only
    rcases ho with rfl | ⟨b,rfl,hb⟩
    ·rw[if_pos (by simp [h2,h3])];rfl
    ·rw[if_pos (by simp [h2,h3,hb])];rfl
   have hno:(∀ E,aKD a key ask y E→∃ b,o=some b∧E.got < b.2.got)→lZ a key ask o y=o:=fun h=>by
    unfold lZ
    rw[if_neg]
    unfold better
    cases he:entry a y with
    | none=>simp
    | some E =>
     intro hc
     simp only[Bool.and_eq_true,decide_eq_true_eq]at hc
     obtain⟨h1,h2,h3⟩:=hc
     obtain⟨b,rfl,hb⟩:=h E ⟨he,h1,h2⟩
     have:=of_decide_eq_true h3
     omega
   by_cases hy:∃ E,aKD a key ask y E
   ·obtain⟨E,hE⟩:=hy
    have huniq:∀ E',aKD a key ask y E'→E'=E:=fun E' h'=>Option.some.inj (h'.1.symm.trans hE.1)
    right
    rcases ih2 with ⟨h1,h2⟩ | ⟨id,h1,E2,h2,h3,h4⟩
    ·refine⟨y,(hmem y).2 (.inr rfl),E,hfit E hE (.inl h1),hE,fun id' hid E' hE'=>?_⟩
     rcases (hmem id').1 hid with hid | rfl
     ·exact absurd hE' (h2 id' hid E')
     ·rw[huniq E' hE'];exact Int.le_refl _
    ·by_cases hge:E2.got≤E.got
     ·refine⟨y,(hmem y).2 (.inr rfl),E,hfit E hE (.inr ⟨_,h2,hge⟩),hE,fun id' hid E' hE'=>?_⟩
      rcases (hmem id').1 hid with hid | rfl
      ·exact Int.le_trans (h4 id' hid E' hE') hge
      ·rw[huniq E' hE'];exact Int.le_refl _
     ·refine⟨id,(hmem id).2 (.inl h1),E2,?_,h3,fun id' hid E' hE'=>?_⟩
      ·rw[hno (fun E' hE'=>⟨_,h2,by rw[huniq E' hE'];show E.got < E2.got;omega⟩),h2]
      ·rcases (hmem id').1 hid with hid | rfl
       ·exact h4 id' hid E' hE'
       ·rw[huniq E' hE'];omega
   ·have hn:lZ a key ask o y=o:=hno (fun E hE=>absurd ⟨E,hE⟩ hy)
    rw[hn]
    rcases ih2 with ⟨h1,h2⟩ | ⟨id,h1,E2,h2,h3,h4⟩
    ·refine .inl ⟨h1,fun id hid E hE=>?_⟩
     rcases (hmem id).1 hid with hid | rfl
     ·exact h2 id hid E hE
     ·exact hy ⟨E,hE⟩
    ·refine .inr ⟨id,(hmem id).2 (.inl h1),E2,h2,h3,fun id' hid E' hE'=>?_⟩
     rcases (hmem id').1 hid with hid | rfl
     ·exact h4 id' hid E' hE'
     ·exact absurd ⟨E',hE'⟩ hy
 have:=key2 l.length (zA _)
 rwa [List.take_length]at this
structure Base (s:S.Sto):Prop where
 fine:Fine 2000 s
 gets:∀ x,x∈s.ids↔(s.get x).isSome=true
 encs:∀ id E,s.get id=some E→S.iG E=0∧S.aV E=id
structure bV (s:S.Sto) (v:Vw):Prop where
 base:Base s
 st:v.s=some s
 hd:v.hd=[]
 mem:∀ id E,v.mem id=some E→s.get id=some E
theorem bV.entry (h:bV s v) (id:ByteArray):v.entry id=s.get id:=by
 unfold Vw.entry
 cases hm:v.mem id with
 | some E=>exact (h.mem id E hm).symm
 | none =>
  dsimp only
  rw[h.st]
theorem bV.entry2 (h:bV s (abs a)) (id:ByteArray):C.entry a id=s.get id:=(aB9 a id).symm.trans (h.entry id)
theorem aLD {x:ByteArray} (h:x∈Lr.ids l):(Lr.peek l x).isSome=true:=by
 obtain⟨y,hy,rfl⟩:=List.mem_map.1 h
 unfold Lr.peek
 rw[List.find?_isSome]
 exact⟨y,hy,by simp⟩
theorem bV.all (h:bV s (abs a)):C.all a=setB s.ids:=by
 refine lW (by unfold C.all;exact jQ _) (jQ _) (fun x=>?_)
 unfold C.all
 rw[jB,jB,List.mem_append]
 have hs:a.s=some s:=h.st
 rw[hs]
 refine⟨fun hx=>hx.elim (fun hx=>?_) id,.inr⟩
 obtain⟨y,hy⟩:=Option.isSome_iff_exists.1 (aLD hx)
 rw[h.base.gets,h.mem x y.p.E (by show (Lr.peek a.l x).map _=_;rw[hy];rfl)]
 rfl
theorem bV.ids (h:bV s (abs a)):C.ids a=setB s.ids:=by
 rw[← h.all]
 unfold C.ids
 refine List.filter_eq_self.2 (fun x _=>?_)
 unfold gone
 have hd:a.hd=[]:=h.hd
 rw[hd]
 rfl
theorem bV.same (h:bV s (abs a)) (h':bV s (abs b)) (key:ByteArray) (ask:List FD):pick a key ask (aU (C.ids a) key)=pick b key ask (aU (C.ids b) key):=by
 rw[h.ids,h'.ids]
 exact aFY (fun id=>(h.entry2 id).trans (h'.entry2 id).symm) _
theorem bV.found (h:bV s (abs a)) (he:C.entry a id=some E) (hl:zW w0 a.l l' id E):bV s (abs { a with l:=l' }) :=
 ⟨h.base,h.st,h.hd,fun x F hF=>by
  change (Lr.peek l' x).map (·.p.E)=some F at hF
  rcases hl.1 x with h1 | ⟨h1,h2⟩ | ⟨rfl,y,h1,h2⟩
  ·rw[h1]at hF;cases hF
  ·rw[h2]at hF;exact h.mem x F hF
  ·rw[h1]at hF
   have:y.p.E=F:=Option.some.inj hF
   rw[← this,h2,← h.entry2,he]⟩
theorem bV.save (h:bV s (abs a)) (hb:Base (s.put E).1) (hE:(s.put E).1.get (S.aV E)=some E) (hk:∀ x F,x≠S.aV E→s.get x=some F→(s.put E).1.get x=some F) (hl:zW w0 a.l l' (S.aV E) E) (h0:(s.put E).2=0) :
  bV (s.put E).1 (abs (C.hide ⟨some (s.put E).1,l',a.hd⟩ (S.aV E) (decide ((s.put E).2≠0)))):=by
 have hd:a.hd=[]:=h.hd
 refine⟨hb,rfl,?_,fun x F hF=>?_⟩
 ·unfold abs C.hide
  dsimp only
  rw[h0,hd]
  rfl
 ·change (Lr.peek l' x).map (·.p.E)=some F at hF
  rcases hl.1 x with h1 | ⟨h1,h2⟩ | ⟨rfl,y,h1,h2⟩
  ·rw[h1]at hF;cases hF
  ·rw[h2]at hF
   exact hk x F h1 (h.mem x F hF)
  ·rw[hE,← h2]
   rw[h1]at hF
   exact hF
structure Snd (n i:Nat) (s:S.Sto) (v:Vw):Prop where
 st:v.s=some s
 keeps:S.bG n i (i * 521100) s
 fit:D.Fit (3+13 * i) s.d
 hd:v.hd=[]
 mem:∀ id E,v.mem id=some E→s.get id=some E
theorem aJC (hk:S.bG n i (i * 521100) s) (hf:D.Fit (3+13 * i) s.d) (hi:i≤100):Fine 2000 s :=
 ⟨hf.mono (by omega),hk.up,by have:=hk.len;omega,fun p hp=>by have:=(hk.tab p hp).2.1;omega,fun p hp=>by rw[hk.used,S.dY];exact (hk.tab p hp).1,by rw[hk.used,S.dY];exact hk.le,by have:=hk.count;omega⟩
theorem aDI (h:S.bG n i (i * 521100) s) (x:ByteArray):x∈s.ids↔(s.get x).isSome=true:=by
 rw[h.get_some]
 unfold S.Sto.ids
 rw[List.mem_map,D.eU]
 exact⟨fun⟨p,hp,e⟩=>⟨p.2,e ▸ hp⟩,fun⟨no,hp⟩=>⟨_,hp,rfl⟩⟩
theorem aL1 (h:S.bG n i (i * 521100) s) {id:ByteArray} {E:O.Ent} (hg:s.get id=some E):S.iG E=0∧S.aV E=id:=by
 rw[h.get]at hg
 cases hf:D.find s.tab id with
 | none=>rw[hf]at hg;cases hg
 | some no =>
  rw[hf]at hg
  dsimp only at hg
  obtain⟨_,_,E2,t3,t4,t5⟩:=h.tab _ (D.aN hf)
  rw[show D.cont s.d (S.path no)=some (S.gY E2) from t3]at hg
  have h2:O.dec (S.gY E2)=some E:=hg
  rw[S.mW t4]at h2
  obtain rfl:E2=E:=Option.some.inj h2
  exact⟨t4,t5⟩
theorem base_of (hk:S.bG n i (i * 521100) s) (hf:D.Fit (3+13 * i) s.d) (hi:i≤100):Base s:=⟨aJC hk hf hi,aDI hk,fun _ _=>aL1 hk⟩
theorem Snd.s0 (h:Snd n i s v) (hi:i≤100):bV s v:=⟨base_of h.keeps h.fit hi,h.st,h.hd,h.mem⟩
theorem Snd.of0 (h:bV s v) (hk:S.bG n i (i * 521100) s) (hf:D.Fit (3+13 * i) s.d):Snd n i s v:=⟨h.st,hk,hf,h.hd,h.mem⟩
theorem Snd.fine (h:Snd n i s v) (hi:i≤100):Fine 2000 s:=aJC h.keeps h.fit hi
theorem Snd.entry (h:Snd n i s v) (id:ByteArray):v.entry id=s.get id:=by
 unfold Vw.entry
 cases hm:v.mem id with
 | some E=>exact (h.mem id E hm).symm
 | none =>
  dsimp only
  rw[h.st]
theorem Snd.puts (h:Snd n i s v) (hi:i+1≤100) (E:O.Ent):Base (s.put E).1∧((s.put E).2=0→S.bG n (i+1) ((i+1) * 521100) (s.put E).1∧D.Fit (3+13 * (i+1)) (s.put E).1.d∧∀ id,(s.put E).1.get id=if id=S.aV E then some E else s.get id):=by
 rcases h.keeps.put hi (by omega) E with ⟨h1,h2⟩ | ⟨h1,h2,h3,h4⟩
 ·rw[h2]
  exact⟨base_of h.keeps h.fit (by omega),fun h0=>absurd h0 h1⟩
 ·have hf:D.Fit (3+13 * (i+1)) (s.put E).1.d:=(S.yH h.fit E).mono (by omega)
  have hk:S.bG n (i+1) ((i+1) * 521100) (s.put E).1:=h3.mono (zA _) (by omega)
  exact⟨base_of hk hf hi,fun _=>⟨hk,hf,h4⟩⟩
theorem Snd.purge1 {v1 v2:Vw} (h1:Snd n i s v1) (h2:Snd n i s v2) (hb:i+s.tab.length≤100) (key id:ByteArray) (c:Nat) (f:Int) :
  ∃ s' i' c' f' u1 u2,Vw.purge1 key (v1,c,f) id=(u1,c',f')∧Vw.purge1 key (v2,c,f) id=(u2,c',f')∧Snd n i' s' u1∧Snd n i' s' u2∧i'+s'.tab.length≤i+s.tab.length∧(f=0→f'=0)∧(∀ x,s'.get x=if x=id∧v1.apart key id=false then none else s.get x):=by
 have hap:∀ v:Vw,Snd n i s v→v.apart key id=(match s.get id with | some E=>decide (E.k≠key) | none=>false):=fun v h=>by unfold Vw.apart;rw[h.entry];rfl
 have less:∀ v:Vw,Snd n i s v→∀ x F,(v.less id).mem x=some F→x≠id∧s.get x=some F:=fun v h x F hF=>by
  change (if x=id then none else v.mem x)=some F at hF
  by_cases hx:x=id
  ·rw[if_pos hx]at hF;cases hF
  ·rw[if_neg hx]at hF;exact⟨hx,h.mem x F hF⟩
 cases ha:v1.apart key id with
 | true =>
  have ha2:v2.apart key id=true:=(hap v2 h2).trans ((hap v1 h1).symm.trans ha)
  refine⟨s,i,c,f,v1,v2,?_,?_,h1,h2,zA _,fun h=>h,fun x=>by rw[if_neg (fun h=>by cases h.2)]⟩
  ·unfold Vw.purge1;rw[if_pos ha]
  ·unfold Vw.purge1;rw[if_pos ha2]
 | false =>
  have ha2:v2.apart key id=false:=(hap v2 h2).trans ((hap v1 h1).symm.trans ha)
  cases hst:V.has s.ids id with
  | false =>
   have hg:s.get id=none:=by
    cases hg:s.get id with
    | none=>rfl
    | some E =>
     have:=(aDI h1.keeps id).2 (by rw[hg];rfl)
     rw[V.has_iff.2 this]at hst
     cases hst
   refine⟨s,i,c+1,f,v1.less id,v2.less id,?_,?_,⟨h1.st,h1.keeps,h1.fit,h1.hd,fun x F hF=>(less v1 h1 x F hF).2⟩,⟨h2.st,h2.keeps,h2.fit,h2.hd,fun x F hF=>(less v2 h2 x F hF).2⟩,zA _,fun h=>h,fun x=>?_⟩
   ·unfold Vw.purge1
    rw[if_neg (by rw[ha];decide)]
    dsimp only
    rw[h1.st]
    dsimp only
    rw[if_neg (by rw[hst];decide)]
   ·unfold Vw.purge1
    rw[if_neg (by rw[ha2];decide)]
    dsimp only
    rw[h2.st]
    dsimp only
    rw[if_neg (by rw[hst];decide)]
   ·by_cases hx:x=id
    ·rw[if_pos ⟨hx,rfl⟩,hx,hg]
    ·rw[if_neg (fun h=>hx h.1)]
  | true =>
   obtain⟨p,hp,hpe⟩:=List.mem_map.1 (V.has_iff.1 hst)
   have hfd:D.find s.tab id=some p.2:=by rw[← hpe];exact D.fB h1.keeps.up hp
   have hdl:=S.aME hp
   rw[hpe]at hdl
   obtain⟨d1,d2,d3⟩:=h1.keeps.drop (by omega) (by have:=h1.keeps.len;omega) hfd
   have hfit:=S.aEZ h1.fit id
   have htab:(s.drop id).1.tab.length+1≤s.tab.length:=by
    obtain⟨dd,ad,_⟩:=h1.keeps.drop0 (by omega) (by have:=h1.keeps.len;omega) hfd
    unfold S.Sto.drop
    rw[hfd]
    dsimp only
    rw[ad]
    dsimp only
    rw[if_neg (by omega),S.xY]
    exact hdl
   have hnh:V.has (s.drop id).1.ids id=false:=by
    cases hh:V.has (s.drop id).1.ids id with
    | false=>rfl
    | true =>
     have:=(aDI (i:=i+1) (d2.mono (zA _) (by omega)) id).1 (V.has_iff.1 hh)
     rw[d3,if_pos rfl]at this
     cases this
   have hK:S.bG n (i+1) ((i+1) * 521100) (s.drop id).1:=d2.mono (zA _) (by omega)
   have hstep:∀ v:Vw,Snd n i s v→v.apart key id=false→Vw.purge1 key (v,c,f) id=(({ v.less id with s:=some (s.drop id).1 }:Vw).hide id,c+1,if f=0 then 0 else f)∧Snd n (i+1) (s.drop id).1 (({ v.less id with s:=some (s.drop id).1 }:Vw).hide id):=fun v hv hva=>by
    refine⟨?_,⟨rfl,hK,hfit.mono (by omega),?_,fun x F hF=>?_⟩⟩
    ·unfold Vw.purge1
     rw[if_neg (by rw[hva];decide)]
     dsimp only
     rw[hv.st]
     dsimp only
     rw[if_pos hst,d1]
    ·have hq:({ v.less id with s:=some (s.drop id).1 }:Vw).stored id=false:=hnh
     show (if ({ v.less id with s:=some (s.drop id).1 }:Vw).stored id=true then _ else D.del v.hd id)=[]
     rw[hq,if_neg (by decide),hv.hd]
     rfl
    ·obtain⟨hx,hg⟩:=less v hv x F hF
     rw[d3,if_neg hx]
     exact hg
   obtain⟨p1,p2⟩:=hstep v1 h1 ha
   obtain⟨q1,q2⟩:=hstep v2 h2 ha2
   refine⟨_,i+1,_,_,_,_,p1,q1,p2,q2,by omega,fun h=>by rw[if_pos h],fun x=>?_⟩
   rw[d3]
   by_cases hx:x=id
   ·rw[if_pos hx,if_pos ⟨hx,rfl⟩]
   ·rw[if_neg hx,if_neg (fun h=>hx h.1)]
theorem Snd.purge2 (key:ByteArray):∀ (l:List ByteArray) {n i:Nat} {s:S.Sto} {v1 v2:Vw} (c:Nat) (f:Int),Snd n i s v1→Snd n i s v2→i+s.tab.length≤100 →
  ∃ s' i' c' f' u1 u2,l.foldl (Vw.purge1 key) (v1,c,f)=(u1,c',f')∧l.foldl (Vw.purge1 key) (v2,c,f)=(u2,c',f')∧Snd n i' s' u1∧Snd n i' s' u2∧i'+s'.tab.length≤i+s.tab.length∧(f=0→f'=0)
 | [],_,i,s,v1,v2,c,f,h1,h2,_=>⟨s,i,c,f,v1,v2,rfl,rfl,h1,h2,zA _,fun h=>h⟩
 | id::l,n,i,s,v1,v2,c,f,h1,h2,hb=>by
  obtain⟨s1,i1,c1,f1,u1,u2,e1,e2,k1,k2,hb1,hf1,_⟩:=h1.purge1 h2 hb key id c f
  obtain⟨s2,i2,c2,f2,w1,w2,e3,e4,k3,k4,hb2,hf2⟩:=Snd.purge2 key l c1 f1 k1 k2 (bD hb1 hb)
  exact⟨s2,i2,c2,f2,w1,w2,by rw[List.foldl_cons,e1,e3],by rw[List.foldl_cons,e2,e4],k3,k4,bD hb2 hb1,fun h=>hf2 (hf1 h)⟩
theorem Snd.purging (h:Snd n i s v) (hb:i+s.tab.length≤100) (key:ByteArray) (l:List ByteArray):(v.purge key l).1.hd.length≤1073741824∧∀ s',(v.purge key l).1.s=some s'→Fine 2000 s':=by
 obtain⟨s2,i2,c2,f2,w1,w2,e1,_,k1,_,hb2,_⟩:=Snd.purge2 key l 0 0 h h hb
 have e:v.purge key l=(w1,c2,f2):=e1
 rw[e]
 refine⟨by show w1.hd.length≤_;rw[k1.hd];exact zF _,fun s' hs=>?_⟩
 have hs2:s2=s':=Option.some.inj (k1.st.symm.trans hs)
 rw[← hs2]
 exact k1.fine (by omega)
end
end C
end Go.Proofs.YthjeglnkgdpijaaGreatDoor
