/- The walk of the law's begin: a cache over a new disk, or over none. A cache over a store on any disk: what it shows is what was saved last. Conditions: as each theorem states them. -/
import Derived.Test.YthjeglnkgdpijaaGreatDoorZ10
set_option maxHeartbeats 4000000
set_option maxRecDepth 100000
namespace Go.Proofs.YthjeglnkgdpijaaGreatDoor
open Go Go.RowKit Go.Maps
namespace S
theorem xC {P:D.Dsk→Prop}:∀ (l:List (D.Dsk→D.Dsk × Int)) {d:D.Dsk},(∀ f∈l,∀ d,P d→P (f d).1)→P d→P (steps d l).1
 | [],_,_,h=>h
 | f::r,d,hf,h=>by
  have h1:=hf f (by simp) d h
  unfold steps
  split
  ·exact h1
  ·exact xC r (fun g hg=>hf g (List.mem_cons_of_mem _ hg)) h1
def Lone (d:D.Dsk):Prop:=∀ p∈d.now,p.1=bT
theorem aD1 {d:D.Dsk} (h:Lone d):Lone (steps d dB).1:=by
 refine xC dB (fun f hf d h=>?_) h
 unfold dB at hf
 simp only[List.mem_cons,List.not_mem_nil,or_false]at hf
 rcases hf with rfl | rfl | rfl
 ·obtain⟨n,hn⟩:=d.begin_as [bT]
  dsimp only
  unfold D.Dsk.create
  cases hbe:d.begin [bT] with
  | mk s1 e =>
   rw[hbe]at hn
   dsimp only at hn ⊢
   subst hn
   split
   ·exact h
   ·split
    ·exact h
    ·intro p hp
     rcases D.aX.1 hp with rfl | ⟨hp,_⟩
     ·rfl
     ·exact h p hp
 ·obtain⟨n,hn⟩:=d.begin_as ([]++[bT])
  dsimp only
  unfold D.Dsk.sync D.Dsk.on
  cases hbe:d.begin ([]++[bT]) with
  | mk s1 e =>
   rw[hbe]at hn
   dsimp only at hn ⊢
   subst hn
   split
   ·exact h
   ·split
    ·exact h
    ·exact h
 ·obtain⟨n,hn⟩:=d.begin_as []
  dsimp only
  unfold D.Dsk.syncNames
  cases hbe:d.begin [] with
  | mk s1 e =>
   rw[hbe]at hn
   dsimp only at hn ⊢
   subst hn
   split
   ·exact h
   ·exact h
theorem aJM {d:D.Dsk} (h:Lone d):∀ nm∈d.list,isO nm=false∧nm.size≤4096:=by
 intro nm hm
 unfold D.Dsk.list at hm
 split at hm
 ·cases hm
 ·obtain⟨p,hp,rfl⟩:=List.mem_map.1 hm
  rw[h p hp]
  exact⟨by decide,by decide⟩
theorem aAL {room:Int} {fails:List Int} (power:Int) (h:0≤room∧room≤1073741824) (hf:fails.length≤1099511627776):D.Fit 0 (D.bare room fails power) :=
 ⟨⟨(fun _ h=>by cases h),(fun _ h=>by cases h),(fun _ h=>by cases h)⟩,⟨rfl,List.Pairwise.nil,List.Pairwise.nil,(fun _ h=>by cases h),(fun _ h=>by cases h),(fun _ h=>by cases h),rfl,fun _ h=>absurd h (Nat.not_lt_zero _)⟩,Int.le_refl _,Int.le_refl _,zA _,zA _,zA _,hf,h,fun no=>by unfold D.Dsk.size D.bare;simp⟩
theorem aNV (room:Int) (fails:List Int) (power:Int):has (D.bare room fails power).list dE=false:=by
 unfold D.Dsk.list
 split<;>rfl
theorem aKV (room:Int) (fails:List Int) (power:Int):(D.bare room fails power).read bT=([],if (D.bare room fails power).down=true then 93 else 90):=by
 unfold D.Dsk.read
 cases (D.bare room fails power).down with
 | true=>rfl
 | false=>rw[if_neg (by decide),if_neg (by rw[dZ];decide)];rfl
end S
namespace C
def start (space:Int) (fails:List Int) (power slots:Int):Option (Option S.Sto) :=
 if slots < 0 then some none
 else if ¬ (0≤space∧space≤1073741824)∨4096 < slots∨(D.bare space fails power).down=true∨(S.steps (D.bare space fails power) S.dB).2.2≠0 then none
 else some (some ⟨(S.steps (D.bare space fails power) S.dB).1,0,[],S.marks slots.toNat []⟩)
end C
theorem fU.lower {B B' t m room:Nat} {w:World} (h:fU B t m room [] w) (hB:B'≤B):fU B' t m room [] w :=
 ⟨h.ring,h.tabc,h.node,h.items,(fun x hx=>by cases hx),h.one,h.fits,h.pos,h.small,⟨bD hB h.ge.1,bD hB h.ge.2.1,fun x hx=>by cases hx⟩⟩
def aOD (mem:Int) (o:Option (Option S.Sto)) (w:World) (e:Ending) (w':World):Prop:=match o with
 | none=>∃ code:Int,code≠0∧e=.returned (.tuple #[.pointer none,.pointer none,.int .i64 code])∧Below w.heap.size w w'
 | some so=>∃ B Z pd,e=.returned (.tuple #[.pointer (some ⟨Z.c,0,none⟩),.pointer pd,.int .i64 0])∧CAt B (Lr.roomOf mem) Z ⟨so,[],[]⟩ w'∧w.heap.size≤B∧B≤w'.heap.size∧Below w.heap.size w w'∧(so.isSome=true→pd.isSome=true)
theorem wG (w:World):Calls Tryz.prog 24 #[.slice none 0 0] w (fun e w'=>∃ A c,e=.returned (.slice A 0 c)∧Below w.heap.size w w'):=by
 go_enter Tryz.func24,Tryz.ntmps24
 go_wp2
 go_loopw [3,4] (fun o i wr=>o=.slice (some ⟨w.heap.size,0,none⟩) 0 0∧i=.int .i64 0∧wr=w.alloc (.cells #[] 97)) (fun _ _ _=>0)
 case atStart=>exact⟨rfl,rfl,rfl⟩
 case round =>
  obtain⟨rfl,rfl,rfl⟩:=hrel
  go_wp2
  go_ret
  exact⟨_,_,rfl,(zB _ _).alloc (zA _) _⟩
theorem qF (space:Int) (FA:Option Addr) (fc:Nat) (fails:List Int) (power slots mem:Int) (w:World) (hn:fails.length≤1099511627776) (hx:Rd w FA fails.length 1 (dS fails)) :
  Calls Tryz.prog 7 #[.agg #[.slice none 0 0,.int .i64 space,.slice FA fails.length fc,.int .i64 power,.int .i64 slots,.int .i64 mem]] w (aOD mem (C.start space fails power slots) w):=by
 obtain⟨fn,hfn⟩:∃ fn,fails.length=fn:=⟨_,rfl⟩
 have HFN:=aH hfn
 rw[hfn]at hx hn ⊢
 obtain⟨w0,hw0⟩:∃ w0,w.alloc (.cells #[.slice none 0 0,.int .i64 space,.slice FA fn fc,.int .i64 power,.int .i64 slots,.int .i64 mem] 25)=w0:=⟨_,rfl⟩
 have hb0:Below w.heap.size w w0:=by rw[← hw0];exact (zB _ _).alloc (zA _) _
 have hk0:Blk w0 w.heap.size #[.slice none 0 0,.int .i64 space,.slice FA fn fc,.int .i64 power,.int .i64 slots,.int .i64 mem] 25:=by rw[← hw0];exact Blk.new w _ _
 have HK0:=aH hk0
 have HB0:=aH hb0
 have HX0:=aH (hx.below hb0)
 have y2:=hk0.cell 2 rfl
 have y4:=hk0.cell 4 rfl
 have y5:=hk0.cell 5 rfl
 clear hfn hb0 hk0 hx
 by_cases hs:slots < 0
 ·have HST:Hid (C.start space fails power slots=some none):=aH (if_pos hs)
  have HCN:=aH (qJ none mem w0)
  go_enter Tryz.func7,Tryz.ntmps7
  go_wp2_with fail
  clear hw0
  refine HCN.out.mono ?_
  rintro e w1 ⟨c,t,m,hm,rfl,h1,h2,h3,h4,h5,h6,h7⟩
  have HC:=aH (show CAt w0.heap.size (Lr.roomOf mem) ⟨c,t,m,hm,⟨⟨0,0,0,none,0,[],fun _=>0,fun _=>none,fun _=>0,none,0⟩,0,0,0,none,0⟩⟩ ⟨none,[],[]⟩ w1 from
   ⟨h3,(fun s hs=>by cases hs),h1,h2,List.Pairwise.nil,h4,(fun s hs=>by cases hs),(fun s hs=>by cases hs),⟨h5,h6⟩⟩)
  have HB1:=aH (aA HB0.out.size HB0.out h7)
  have HS1:=aH h7.size
  clear h1 h2 h3 h4 h5 h6 h7 HCN y2 y4 y5
  go_wp2
  (try simp only[Exit.inBlock,Exit.then])
  refine bK (results_tmp3 rfl _ _ _) rfl ?_
  rw[HST.out]
  exact⟨_,_,none,rfl,HC.out,HB0.out.size,HS1.out,HB1.out,fun h=>by cases h⟩
 have hs2:¬ slots < 0:=hs
 have HSL:=aH hs
 have HSTE:Hid (¬ (0≤space∧space≤1073741824)∨4096 < slots∨(D.bare space fails power).down=true∨(S.steps (D.bare space fails power) S.dB).2.2≠0→C.start space fails power slots=none):=aH (fun h=>by unfold C.start;rw[if_neg hs,if_pos h])
 clear hs
 go_enter Tryz.func7,Tryz.ntmps7
 have hbe:Below w0.heap.size w0 (w0.alloc (.cells #[] 3)):=(zB _ _).alloc (zA _) _
 have HBE:=aH hbe
 have HXE:=aH (HX0.out.below hbe)
 have y2e:=(HK0.out.below hbe).cell 2 rfl
 clear hbe
 have hn3:0+fn≤2199023255552:=by omega
 go_wp2_with (at_builtin;refine appI _ rfl _ _ rfl w0.heap.size _ 0 0 [] rfl (Row.empty _ _ _ _ _) FA fn fc fails rfl HXE.out hn3 (by rw[bJ];omega) ?_;intro A1 c1 w1 hr1 ha1;simp only[Nat.zero_add,List.nil_append]at hr1 ⊢;have HB1:=aH (aA HB0.out.size HB0.out (((zB _ w0).alloc (zA _) _).trans (ha1.below (Row.empty _ _ 3 1 _) (by simp))));have HK1:=aH ((HK0.out.below (((zB _ w0).alloc (zA _) _).trans (ha1.below (Row.empty _ _ 3 1 _) (by simp)))));have HR1:=aH hr1;clear hr1 ha1 y2 y4 y5 y2e hw0 HBE HXE HX0)
 have hS0:Below w1.heap.size w1 w1.drew:=(zB _ _).drew
 refine wp_region_noPanic ?_
 refine HT.begin (n:=13) (S:=(fun u=>Below w1.heap.size w1 u)) (by kernel_rfl) hS0 ?_
 generalize w1.drew=w2 at *
 refine HT.take 0 (.pointer (some ⟨w.heap.size,0,none⟩)) rfl (by kernel_rfl) (fun _ _ _ h=>h) (Or.inl ⟨by rfl,?_⟩) ?_
 ·intro u hu
  go_simp
 refine HT.take 1 (.slice none 0 0) rfl (by kernel_rfl) (fun _ _ _ h=>h) (Or.inl ⟨by rfl,?_⟩) ?_
 ·intro u hu
  have y0:=(HK1.out.below hu).cell 0 rfl
  go_simp
 refine HT.take 3 (.pointer (some ⟨w.heap.size,1,none⟩)) rfl (by kernel_rfl) (fun _ _ _ h=>h) (Or.inl ⟨by rfl,?_⟩) ?_
 ·intro u hu
  go_simp
 refine HT.take 4 (.int .i64 space) rfl (by kernel_rfl) (fun _ _ _ h=>h) (Or.inl ⟨by rfl,?_⟩) ?_
 ·intro u hu
  have y1:=(HK1.out.below hu).cell 1 rfl
  go_simp
 refine HT.take 5 (.slice A1 fn c1) rfl (by kernel_rfl) (fun _ _ _ h=>h) (Or.inl ⟨by rfl,?_⟩) ?_
 ·intro u hu
  go_simp
 refine HT.take 6 (.pointer (some ⟨w.heap.size,3,none⟩)) rfl (by kernel_rfl) (fun _ _ _ h=>h) (Or.inl ⟨by rfl,?_⟩) ?_
 ·intro u hu
  go_simp
 refine HT.take 7 (.int .i64 power) rfl (by kernel_rfl) (fun _ _ _ h=>h) (Or.inl ⟨by rfl,?_⟩) (?_:HT _ _ _ _ _ _ _ ⟨#[_,_,_,_,_,_,_,_,_,_,_,_,_,_,_,_,_,_,_,_,_,.pointer (some ⟨w.heap.size,0,none⟩),.slice none 0 0,_,.pointer (some ⟨w.heap.size,1,none⟩),.int .i64 space,.slice A1 fn c1,.pointer (some ⟨w.heap.size,3,none⟩),.int .i64 power,_,_,_,_,_,_,_,_,_,_,_,_,_,_,_,_,_,_,_,_,_,_,_,_,_,_,_,_,_],[]⟩ _)
 ·intro u hu
  have y3:=(HK1.out.below hu).cell 3 rfl
  go_simp
 refine HT.step 2 rfl (by kernel_rfl) (fun hS K hK=>?_)
 go_simp
 refine (wG w2).mono ?_
 rintro e w3 ⟨A2,c2,rfl,hb3⟩
 have HB3:=aH (aA hS.size hS hb3)
 refine hK.out _ _ HB3.out ?_
 clear hK hS hb3
 refine HT.step 8 rfl (by kernel_rfl) (fun hS K hK=>?_)
 go_simp
 have hrF:=(HR1.out.below HB3.out)
 refine (by
  have hq:=aMK A2 c2 A1 c1 fails space power w3 (by rw[HFN.out];exact hn) (by rw[HFN.out];exact hrF.rd) (fun hA=>by rw[HFN.out];exact hrF.nilC hA)
  rw[HFN.out]at hq
  exact hq:Calls Tryz.prog 23 #[.slice A2 0 c2,.int .i64 space,.slice A1 fn c1,.int .i64 power] w3 (aLB w3 space fails power)).mono ?_
 rintro e w4 hret
 obtain⟨pd,code,rfl,hb4,hnw⟩:∃ (pd:Option Addr) (code:Int),e=.returned (.tuple #[.pointer pd,.int .i64 code])∧Below w3.heap.size w3 w4∧((code=131∧pd=none∧¬ (0≤space∧space≤1073741824))∨(code=0∧0≤space∧space≤1073741824∧∃ M,pd=some ⟨M.d,0,none⟩∧dD w3.heap.size M (D.bare space fails power) w4)):=by
  rcases hret with ⟨h1,rfl,h2⟩ | ⟨h1,h2,M,rfl,h3,h4⟩
  ·exact⟨none,131,rfl,h2,.inl ⟨rfl,rfl,h1⟩⟩
  ·exact⟨_,0,rfl,h4,.inr ⟨rfl,h1,h2,M,rfl,h3⟩⟩
 have HNW:=aH hnw
 have HB4:=aH (aA HB3.out.size HB3.out hb4)
 have HS34:=aH hb4.size
 refine hK.out _ _ HB4.out ?_
 clear hK hS hret hb4 hnw hrF
 refine HT.take 9 (.tuple #[.pointer pd,.int .i64 code]) rfl (by kernel_rfl) (fun _ _ _ h=>h) (Or.inl ⟨by rfl,?_⟩) ?_
 ·intro u hu
  go_simp
 refine HT.take 10 (.pointer pd) rfl (by kernel_rfl) (fun _ _ _ h=>h) (Or.inl ⟨by rfl,?_⟩) ?_
 ·intro u hu
  go_simp
 refine HT.take 11 (.int .i64 code) rfl (by kernel_rfl) (fun _ _ _ h=>h) (Or.inl ⟨by rfl,?_⟩) ?_
 ·intro u hu
  go_simp
 refine HT.take 12 (.pointer pd) rfl (by kernel_rfl) (fun _ _ _ h=>h) (Or.inl ⟨by rfl,?_⟩) (?_:HT _ _ _ _ _ _ _ ⟨#[_,_,_,_,_,_,.pointer pd,_,_,_,_,_,_,_,_,_,_,_,_,_,.tuple #[.pointer pd,.int .i64 code],.pointer (some ⟨w.heap.size,0,none⟩),.slice none 0 0,.slice A2 0 c2,.pointer (some ⟨w.heap.size,1,none⟩),.int .i64 space,.slice A1 fn c1,.pointer (some ⟨w.heap.size,3,none⟩),.int .i64 power,.tuple #[.pointer pd,.int .i64 code],.pointer pd,.int .i64 code,_,_,_,_,_,_,_,_,_,_,_,_,_,_,_,_,_,_,_,_,_,_,_,_,_,_],[]⟩ _)
 ·intro u hu
  go_simp
 refine HT.tail _ rfl rfl (by kernel_rfl) (fun hS=>?_)
 clear hS hS0
 have HBA:=aH (aA HB1.out.size HB1.out HB4.out)
 have HKA:=aH (HK1.out.below HB4.out)
 have HZ3:Hid (w.heap.size < w3.heap.size):=aH (Nat.lt_of_lt_of_le HK1.out.lt HB3.out.size)
 clear HB1 HB3 HB4 HK1 HR1 HK0 HB0
 rcases HNW.out with ⟨rfl,rfl,hbad⟩ | ⟨rfl,hr0,hr1,M,rfl,hd⟩
 ·have HST:=aH (HSTE.out (.inl hbad))
  clear hbad HNW
  go_wp2
  refine NoPanic.normal ?_
  go_wp2
  (try simp only[Exit.inBlock,Exit.then])
  refine bK (results_tmp3 rfl _ _ _) rfl ?_
  rw[HST.out]
  exact⟨131,by decide,rfl,HBA.out⟩
 have HD:=aH hd
 have HR0:=aH (show 0≤space∧space≤1073741824 from⟨hr0,hr1⟩)
 have y4:=HKA.out.cell 4 rfl
 have y5:=HKA.out.cell 5 rfl
 clear hd hr0 hr1 HNW
 by_cases hsl:4096 < slots
 ·have HST:=aH (HSTE.out (.inr (.inl hsl)))
  have HOP:=aH (aDV (.pointer (some ⟨M.d,0,none⟩)) slots w4 (.inr hsl))
  go_wp2
  refine NoPanic.normal ?_
  go_wp2_with fail
  refine HOP.out.mono ?_
  rintro e w5 ⟨rfl,rfl⟩
  clear HOP
  go_wp2
  (try simp only[Exit.inBlock,Exit.then])
  refine bK (results_tmp3 rfl _ _ _) rfl ?_
  rw[HST.out]
  exact⟨131,by decide,rfl,HBA.out⟩
 obtain⟨n,hsn⟩:∃ n:Nat,slots=n:=⟨slots.toNat,by omega⟩
 subst hsn
 have hn4:n≤4096:=by omega
 have HOP:=aH (aI6 w3.heap.size M (D.bare space fails power) 0 n w4 HD.out (S.aAL power HR0.out (by rw[HFN.out];exact hn)) (by omega) (S.aNV _ _ _) (S.aKV _ _ _) (S.aJM (S.aD1 (fun _ h=>by cases h))) hn4)
 have HUN:=aH (fun k (hk:M.foot (D.bare space fails power) k)=>HD.out.under hk)
 have HDB:=aH HD.out.base
 go_wp2
 refine NoPanic.normal ?_
 go_wp2_with fail
 refine HOP.out.mono ?_
 rintro e w5 (⟨code,hc,hcs,rfl,hw5⟩ | ⟨hdn,hs0,X,d3,hd3,rfl,hst,hw5,hxd⟩)
 ·have HST:=aH (HSTE.out (by
   cases hdw:(D.bare space fails power).down with
   | true=>exact .inr (.inr (.inl rfl))
   | false=>exact .inr (.inr (.inr (hcs hdw)))))
  have HC:=aH hc
  have hcb:(code != 0)=true:=bne_iff_ne.2 hc
  have HB5:=aH (HBA.out.trans ((hw5.under HUN.out HDB.out).mono (Nat.le_of_lt HZ3.out)))
  clear hcs hw5 HOP
  go_wp2
  (try simp only[Exit.inBlock,Exit.then])
  refine bK (results_tmp3 rfl _ _ _) rfl ?_
  rw[HST.out]
  exact⟨code,HC.out,rfl,HB5.out⟩
 ·have HST:Hid (C.start space fails power n=some (some ⟨d3,0,[],S.marks n []⟩)):=aH (by
   unfold C.start
   rw[if_neg (Int.not_lt.2 HSL.out),if_neg (by
    rintro (h | h | h | h)
    ·exact h HR0.out
    ·omega
    ·rw[hdn]at h;cases h
    ·exact h hs0),hd3,Int.toNat_natCast])
  have HB5:=aH (HBA.out.trans ((hw5.under HUN.out HDB.out).mono (Nat.le_of_lt HZ3.out)))
  have HS5:=aH hst
  have hk5:=hw5.blk HKA.out (fun hf=>by have h1:=HUN.out _ hf;have h2:=HZ3.out;omega)
  have y5:=hk5.cell 5 rfl
  have HCN:=aH (qJ (some ⟨X.st,0,none⟩) mem w5)
  have HBW:Hid (w3.heap.size≤w5.heap.size):=aH (bD HDB.out hw5.size)
  clear hdn hs0 hd3 hst hw5 hxd hk5 HOP
  go_wp2_with fail
  refine HCN.out.mono ?_
  rintro e w6 ⟨c,t,m,hm,rfl,h1,h2,h3,h4,h5,h6,h7⟩
  have HC:=aH (show CAt w3.heap.size (Lr.roomOf mem) ⟨c,t,m,hm,X⟩ ⟨some ⟨d3,0,[],S.marks n []⟩,[],[]⟩ w6 from
   ⟨h3,(fun s hs=>by cases hs;exact HS5.out.below h7),h1.lower HBW.out,h2,List.Pairwise.nil,h4,(fun s hs=>by
    cases hs
    refine⟨fun hf=>?_,fun hf=>?_⟩
    ·have h8:hm < w5.heap.size:=HS5.out.lt hf
     omega
    ·have h8:m < w5.heap.size:=HS5.out.lt hf
     have h9:=h1.ge.2.1
     omega),(fun s _ x hx=>by cases hx),⟨bD HBW.out h5,bD HBW.out h6⟩⟩)
  have HB6:=aH (aA HB5.out.size HB5.out h7)
  have HS6:=aH (bD HBW.out h7.size)
  clear h1 h2 h3 h4 h5 h6 h7 HCN
  go_wp2
  (try simp only[Exit.inBlock,Exit.then])
  refine bK (results_tmp3 rfl _ _ _) rfl ?_
  rw[HST.out]
  exact⟨_,_,_,rfl,HC.out,Nat.le_of_lt HZ3.out,HS6.out,HB6.out,fun _=>rfl⟩
end Go.Proofs.YthjeglnkgdpijaaGreatDoor
namespace Go.Proofs.YthjeglnkgdpijaaGreatDoor
namespace C
def Vw.seen (v:Vw) (x:ByteArray):Option O.Ent:=match v.s with
 | some s=>if (D.find v.hd x).isSome=true then none else s.get x
 | none=>none
def ups (G:ByteArray→Option O.Ent) (E:O.Ent) (x:ByteArray):Option O.Ent:=if x=S.aU E then some E else G x
def cuts (G:ByteArray→Option O.Ent) (key:ByteArray) (x:ByteArray):Option O.Ent:=(G x).filter fun E=>decide (E.k≠key)
structure jW (n i j:Nat) (G:ByteArray→Option O.Ent) (v:Vw):Prop where
 sto:∀ s,v.s=some s→S.Odd n i j s∧D.Fit (3+13 * i) s.d
 mem:∀ x E,v.mem x=some E→G x=some E
 dsk:∀ x E,v.seen x=some E→G x=some E
 hd:v.hd.length≤i
section
variable {n i j:Nat} {G:ByteArray→Option O.Ent} {v:Vw} {s:S.Sto} {a:CSt} {E:O.Ent} {id key:ByteArray} {l':List It} {w0:World}
theorem dY {x:ByteArray}:v.seen x=some E↔∃ s,v.s=some s∧D.find v.hd x=none∧s.get x=some E:=by
 unfold Vw.seen
 cases hs:v.s with
 | none=>exact⟨fun h=>(by cases h),fun⟨_,h,_⟩=>(by cases h)⟩
 | some s =>
  dsimp only
  cases hf:D.find v.hd x with
  | none=>exact⟨fun h=>⟨s,rfl,rfl,h⟩,fun⟨s',h1,_,h3⟩=>by cases h1;exact h3⟩
  | some m=>exact⟨fun h=>(by cases h),fun⟨_,_,h,_⟩=>(by cases h)⟩
theorem kX {x:ByteArray} (h:s.get x=some E):x∈s.ids:=by
 obtain⟨_,no,_,h2,_⟩:=S.aFO h
 unfold S.Sto.ids
 exact List.mem_map.2 ⟨_,D.aI h2,rfl⟩
theorem jW.fine (h:jW n i j G v) (hi:i≤3000) (hj:j≤100) (hs:v.s=some s):Fine 50000 s:=by
 obtain⟨h1,h2⟩:=h.sto s hs
 exact⟨h2.mono (by omega),h1.up,by have:=h1.len;omega,fun p hp=>by have:=h1.ids p hp;omega,fun p hp=>by rw[h1.used,S.cZ];exact h1.no p hp,by rw[h1.used,S.cZ];exact h1.le,by have:=h1.cnt;omega⟩
theorem jW.mono {i' j':Nat} (h:jW n i j G v) (hi:i≤i') (hj:j≤j'):jW n i' j' G v :=
 ⟨fun s hs=>⟨(h.sto s hs).1.mono hi hj,(h.sto s hs).2.mono (by omega)⟩,h.mem,h.dsk,bD h.hd hi⟩
theorem jW.good {ask:List FD} (h:jW n i j G (abs a)) (hb:F.bulk ask≤1048576) (hV:∀ x E,G x=some E→S.gU E=0):∀ id E,C.entry a id=some E→C.Good ask E:=fun id E he=>by
 refine enc_good ?_ hb
 have hm:=h.mem id E
 unfold entry at he
 change (Lr.peek a.l id).map (·.p.E)=some E→_ at hm
 cases hp:Lr.peek a.l id with
 | some y =>
  rw[hp]at he hm
  exact hV id E (hm he)
 | none =>
  rw[hp]at he
  dsimp only at he
  cases hs:a.s with
  | none=>rw[hs]at he;cases he
  | some s =>
   rw[hs]at he
   exact S.aP7 he
theorem jW.shown (h:jW n i j G (abs a)) (hg:gone a id=false) (he:C.entry a id=some E):G id=some E:=by
 have hm:=h.mem id E
 have hd:=h.dsk id E
 rw[dY]at hd
 change (Lr.peek a.l id).map (·.p.E)=some E→_ at hm
 unfold entry at he
 cases hp:Lr.peek a.l id with
 | some y =>
  rw[hp]at he hm
  exact hm he
 | none =>
  rw[hp]at he
  unfold gone at hg
  rw[hp]at hg
  dsimp only at he
  cases hs:a.s with
  | none=>rw[hs]at he;cases he
  | some s =>
   rw[hs]at he
   refine hd ⟨s,hs,?_,he⟩
   show D.find a.hd id=none
   cases hf:D.find a.hd id with
   | none=>rfl
   | some m=>rw[hf]at hg;cases hg
theorem jW.laid (h:jW n i j G (abs a)) (hl:pV w0 a.l l' id E) (x:ByteArray) (F:O.Ent) (hF:(Lr.peek l' x).map (·.p.E)=some F):(x=id∧F=E)∨(x≠id∧G x=some F):=by
 rcases hl.1 x with h1 | ⟨h1,h2⟩ | ⟨rfl,y,h1,h2⟩
 ·rw[h1]at hF;cases hF
 ·rw[h2]at hF;exact .inr ⟨h1,h.mem x F hF⟩
 ·rw[h1]at hF
  exact .inl ⟨rfl,(Option.some.inj hF).symm.trans h2⟩
theorem jW.found (h:jW n i j G (abs a)) (he:G id=some E) (hl:pV w0 a.l l' id E):jW n i j G (abs { a with l:=l' }) :=
 ⟨h.sto,fun x F hF=>by
  rcases h.laid hl x F hF with ⟨rfl,rfl⟩ | ⟨_,h1⟩
  ·exact he
  ·exact h1,h.dsk,h.hd⟩
theorem jW.save0 (h:jW n i j G (abs a)) (hs:a.s=none) (hl:pV w0 a.l l' (S.aU E) E):jW n (i+1) (j+1) (ups G E) (abs { a with l:=l' }) :=
 ⟨fun s h1=>(by change a.s=some s at h1;rw[hs]at h1;cases h1),fun x F hF=>by
  unfold ups
  rcases h.laid hl x F hF with ⟨rfl,rfl⟩ | ⟨h0,h1⟩
  ·rw[if_pos rfl]
  ·rw[if_neg h0,h1],fun x F hF=>(by
  obtain⟨s,h1,_⟩:=dY.1 hF
  change a.s=some s at h1
  rw[hs]at h1
  cases h1),Nat.le_succ_of_le h.hd⟩
theorem jW.save1 (h:jW n i j G (abs a)) (hs:a.s=some s) (hl:pV w0 a.l l' (S.aU E) E):jW n (i+1) (j+1) (ups G E) (abs (C.hide ⟨some (s.put E).1,l',a.hd⟩ (S.aU E) (decide ((s.put E).2≠0)))):=by
 obtain⟨o0,o4⟩:=h.sto s hs
 obtain⟨o1,o2,o3⟩:=o0.put E
 have hhd:a.hd.length≤i:=h.hd
 refine⟨fun s' h1=>?_,fun x F hF=>?_,fun x F hF=>?_,?_⟩
 ·obtain rfl:(s.put E).1=s':=Option.some.inj h1
  exact⟨o1,(S.oH o4 E).mono (by omega)⟩
 ·unfold ups
  rcases h.laid hl x F hF with ⟨rfl,rfl⟩ | ⟨h0,h1⟩
  ·rw[if_pos rfl]
  ·rw[if_neg h0,h1]
 ·obtain⟨s',h1,h2,h3⟩:=dY.1 hF
  obtain rfl:(s.put E).1=s':=Option.some.inj h1
  unfold ups
  unfold abs C.hide stored at h2
  dsimp only at h2
  by_cases hx:x=S.aU E
  ·subst hx
   rw[if_pos rfl]
   by_cases h0:(s.put E).2=0
   ·exact congrArg some (o3 h0 F h3).symm
   ·rw[if_pos (by rw[decide_eq_true h0,V.has_iff.2 (kX h3)];rfl),D.dN,if_pos rfl]at h2
    cases h2
  ·rw[if_neg hx]
   refine h.dsk x F (dY.2 ⟨s,hs,?_,o2 x F hx h3⟩)
   show D.find a.hd x=none
   split at h2
   ·rwa [D.dN,if_neg hx]at h2
   ·rwa [D.fO,if_neg hx]at h2
 ·show (C.hide _ _ _).hd.length≤_
  unfold C.hide
  dsimp only
  split
  ·have:=D.eH a.hd (S.aU E) 0
   omega
  ·have:=D.fG a.hd (S.aU E)
   omega
def Past (key:ByteArray) (G:ByteArray→Option O.Ent) (v:Vw) (y:ByteArray):Prop:=∀ E,E.k=key→G y=some E→v.mem y≠some E∧v.seen y≠some E
structure Less (v v':Vw):Prop where
 mem:∀ y E,v'.mem y=some E→v.mem y=some E
 seen:∀ y E,v'.seen y=some E→v.seen y=some E
 ids:∀ y,v'.stored y=true→v.stored y=true
theorem Less.refl (v:Vw):Less v v:=⟨fun _ _ h=>h,fun _ _ h=>h,fun _ h=>h⟩
theorem Less.trans {v1 v2:Vw} (h:Less v v1) (k:Less v1 v2):Less v v2:=⟨fun y E e=>h.mem y E (k.mem y E e),fun y E e=>h.seen y E (k.seen y E e),fun y e=>h.ids y (k.ids y e)⟩
theorem Past.less {v':Vw} {y:ByteArray} (h:Past key G v y) (hl:Less v v'):Past key G v' y:=fun E h1 h2=>⟨fun e=>(h E h1 h2).1 (hl.mem y E e),fun e=>(h E h1 h2).2 (hl.seen y E e)⟩
theorem nG {y:ByteArray} (h:(v.less id).mem y=some E):y≠id∧v.mem y=some E:=by
 change (if y=id then none else v.mem y)=some E at h
 by_cases hy:y=id
 ·rw[if_pos hy]at h;cases h
 ·rw[if_neg hy]at h;exact⟨hy,h⟩
theorem jW.purge1 (h:jW n i j G v) (c:Nat) (f:Int) (id:ByteArray):∃ v' c' f',Vw.purge1 key (v,c,f) id=(v',c',f')∧jW n (if v.stored id=true then i+1 else i) j G v'∧Less v v'∧Past key G v' id:=by
 unfold Vw.purge1
 dsimp only
 by_cases ha:v.apart key id=true
 ·rw[if_pos ha]
  refine⟨_,_,_,rfl,h.mono (by split<;>omega) (zA _),Less.refl v,fun E hk hV=>?_⟩
  unfold Vw.apart Vw.entry at ha
  cases hm:v.mem id with
  | some E1 =>
   rw[hm]at ha
   have h1:=of_decide_eq_true ha
   have h2:=h.mem id E1 hm
   rw[hV]at h2
   exact absurd (Option.some.inj h2 ▸ hk) h1
  | none =>
   rw[hm]at ha
   refine⟨fun e=>(by cases e),fun e=>?_⟩
   obtain⟨s,h1,_,h3⟩:=dY.1 e
   rw[h1]at ha
   dsimp only at ha
   rw[h3]at ha
   exact absurd hk (of_decide_eq_true ha)
 rw[if_neg ha]
 cases hs:v.s with
 | none =>
  have hn:∀ y E,v.seen y≠some E:=fun y E e=>by
   obtain⟨s,h1,_⟩:=dY.1 e
   rw[hs]at h1
   cases h1
  have hl:Less v (v.less id):=⟨fun y E e=>(nG e).2,fun _ _ e=>e,fun _ e=>e⟩
  exact⟨_,_,_,rfl,jW.mono (i:=i) ⟨h.sto,fun x E e=>h.mem x E (hl.mem x E e),h.dsk,h.hd⟩ (by split<;>omega) (zA _),hl,fun E _ _=>⟨fun e=>(nG e).1 rfl,hn id E⟩⟩
 | some s =>
  dsimp only
  have hst:v.stored id=V.has s.ids id:=by unfold Vw.stored;rw[hs]
  rw[hst]
  by_cases hh:V.has s.ids id=true
  ·rw[if_pos hh,if_pos hh]
   obtain⟨o1,o2⟩:=h.sto s hs
   obtain⟨d1,d2,d3⟩:=o1.drop id
   have hfi:=(S.aAE o2 id).mono (show 3+13 * i+8≤3+13 * (i+1) by omega)
   generalize (s.drop id).1=s2 at *
   have hse:∀ y E,(({ v.less id with s:=some s2 }:Vw).hide id).seen y=some E→y≠id∧v.seen y=some E:=fun y E e=>by
    obtain⟨s',h1,h2,h3⟩:=dY.1 e
    obtain rfl:s2=s':=Option.some.inj h1
    unfold Vw.hide Vw.stored Vw.less at h2
    dsimp only at h2
    by_cases hy:y=id
    ·subst hy
     rw[if_pos (V.has_iff.2 (kX h3)),D.dN,if_pos rfl]at h2
     cases h2
    ·refine⟨hy,dY.2 ⟨s,hs,?_,d2 y E h3⟩⟩
     split at h2
     ·rwa [D.dN,if_neg hy]at h2
     ·rwa [D.fO,if_neg hy]at h2
   have hme:∀ y E,(({ v.less id with s:=some s2 }:Vw).hide id).mem y=some E→y≠id∧v.mem y=some E:=fun y E e=>nG (v:=v) e
   refine⟨_,_,_,rfl,⟨fun s' h1=>?_,fun x E e=>h.mem x E (hme x E e).2,fun x E e=>h.dsk x E (hse x E e).2,?_⟩,⟨fun y E e=>(hme y E e).2,fun y E e=>(hse y E e).2,fun y e=>?_⟩,fun E _ _=>⟨fun e=>(hme id E e).1 rfl,fun e=>(hse id E e).1 rfl⟩⟩
   ·obtain rfl:s2=s':=Option.some.inj h1
    exact⟨d1,hfi⟩
   ·have:=h.hd
    show (Vw.hide _ _).hd.length≤_
    unfold Vw.hide
    dsimp only
    split
    ·have h2:(D.put (v.less id).hd id 0).length≤_:=D.eH v.hd id 0
     omega
    ·have h2:(D.del (v.less id).hd id).length≤_:=D.fG v.hd id
     omega
   ·change V.has s2.ids y=true at e
    unfold Vw.stored
    rw[hs]
    exact V.has_iff.2 (d3 y (V.has_iff.1 e))
  ·rw[if_neg hh,if_neg hh]
   have hl:Less v (v.less id):=⟨fun y E e=>(nG e).2,fun _ _ e=>e,fun _ e=>e⟩
   refine⟨_,_,_,rfl,⟨h.sto,fun x E e=>h.mem x E (hl.mem x E e),h.dsk,h.hd⟩,hl,fun E _ _=>⟨fun e=>(nG e).1 rfl,fun e=>?_⟩⟩
   obtain⟨s',h1,_,h3⟩:=dY.1 (show v.seen id=some E from e)
   rw[hs]at h1
   obtain rfl:s=s':=Option.some.inj h1
   exact hh (V.has_iff.2 (kX h3))
theorem jW.purges (ids0:List ByteArray):∀ (l:List ByteArray) {v:Vw} {c:Nat} {f:Int} {i:Nat},jW n i j G v→(∀ y,v.stored y=true→y∈ids0) →
  ∃ v' c' f',l.foldl (Vw.purge1 key) (v,c,f)=(v',c',f')∧jW n (i+(l.filter (V.has ids0)).length) j G v'∧Less v v'∧∀ y∈l,Past key G v' y
 | [],v,c,f,i,h,_=>⟨v,c,f,rfl,h,Less.refl v,fun _ h=>by cases h⟩
 | id::r,v,c,f,i,h,h0=>by
  obtain⟨v1,c1,f1,e1,h1,l1,p1⟩:=h.purge1 (key:=key) c f id
  obtain⟨v2,c2,f2,e2,h2,l2,p2⟩:=jW.purges ids0 r h1 (c:=c1) (f:=f1) (fun y hy=>h0 y (l1.ids y hy))
  refine⟨v2,c2,f2,by rw[List.foldl_cons,e1,e2],h2.mono ?_ (zA _),l1.trans l2,fun y hy=>?_⟩
  ·rw[List.filter_cons]
   by_cases hs:v.stored id=true
   ·rw[if_pos hs,if_pos (V.has_iff.2 (h0 id hs)),List.length_cons]
    omega
   ·rw[if_neg hs]
    split
    ·rw[List.length_cons];omega
    ·exact zA _
  ·rcases List.mem_cons.1 hy with rfl | hy
   ·exact p1.less l2
   ·exact p2 y hy
theorem aJ9 {l m:List ByteArray} (hl:l.Pairwise fun a b=>D.ltB a b=true) (hm:m.Pairwise fun a b=>D.ltB a b=true):(l.filter (V.has m)).length≤m.length:=by
 rw[kN (l:=l.filter (V.has m)) (m:=m.filter (V.has l)) (hl.sublist List.filter_sublist) (hm.sublist List.filter_sublist) (fun x=>by rw[List.mem_filter,List.mem_filter,V.has_iff,V.has_iff,and_comm])]
 exact List.length_filter_le _ _
theorem aPZ {x:ByteArray} (h:(abs a).mem x=some E∨(abs a).seen x=some E):x∈C.all a:=by
 unfold C.all
 rw[iD,List.mem_append]
 rcases h with h | h
 ·change (Lr.peek a.l x).map (·.p.E)=some E at h
  cases hp:Lr.peek a.l x with
  | none=>rw[hp]at h;cases h
  | some y =>
   unfold Lr.peek at hp
   refine .inl (List.mem_map.2 ⟨y,List.mem_of_find?_eq_some hp,?_⟩)
   exact of_decide_eq_true (List.find?_some (p:=fun z:It=>decide (z.id=x)) hp)
 ·obtain⟨s,h1,_,h3⟩:=dY.1 h
  right
  change a.s=some s at h1
  rw[h1]
  exact kX h3
theorem jW.purge (h:jW n i j G (abs a)) (key:ByteArray) (hV:∀ x E,G x=some E→S.aU E=x) :
  (∀ k,jW n (i+j) j G ((abs a).purge key ((aV (C.all a) key).take k)).1)∧jW n (i+j) j (cuts G key) ((abs a).purge key (aV (C.all a) key)).1:=by
 have hr:(aV (C.all a) key).Pairwise fun a b=>D.ltB a b=true:=List.Pairwise.sublist List.filter_sublist (by unfold C.all;exact iT _)
 obtain⟨ids0,hi0,hi1,hi2⟩:∃ ids0:List ByteArray,(∀ y,(abs a).stored y=true→y∈ids0)∧(ids0.Pairwise fun a b=>D.ltB a b=true)∧ids0.length≤j:=by
  cases hs:a.s with
  | none=>exact⟨[],fun y hy=>(by unfold Vw.stored abs at hy;rw[hs]at hy;cases hy),List.Pairwise.nil,zF _⟩
  | some s =>
   obtain⟨o1,_⟩:=h.sto s hs
   refine⟨s.ids,fun y hy=>?_,?_,?_⟩
   ·unfold Vw.stored abs at hy
    rw[hs]at hy
    exact V.has_iff.1 hy
   ·unfold S.Sto.ids
    rw[List.pairwise_map]
    exact o1.up
   ·unfold S.Sto.ids
    rw[List.length_map]
    exact o1.len
 have hk:∀ l:List ByteArray,l.Pairwise (fun a b=>D.ltB a b=true)→∃ v' c' f',(abs a).purge key l=(v',c',f')∧jW n (i+j) j G v'∧Less (abs a) v'∧∀ y∈l,Past key G v' y:=fun l hl=>by
  obtain⟨v',c',f',e,h1,h2,h3⟩:=jW.purges (key:=key) ids0 l h (c:=0) (f:=0) hi0
  exact⟨v',c',f',e,h1.mono (by have:=aJ9 hl hi1;omega) (zA _),h2,h3⟩
 refine⟨fun k=>?_,?_⟩
 ·obtain⟨v',c',f',e,h1,_⟩:=hk ((aV (C.all a) key).take k) (hr.sublist (List.take_sublist _ _))
  rw[e]
  exact h1
 ·obtain⟨v',c',f',e,h1,h2,h3⟩:=hk _ hr
  rw[e]
  have hcut:∀ x E,G x=some E→((abs a).mem x=some E∨(abs a).seen x=some E)→(v'.mem x=some E∨v'.seen x=some E)→cuts G key x=some E:=fun x E hv ho hn=>by
   unfold cuts
   rw[hv]
   by_cases hkk:E.k=key
   ·exfalso
    have hx:x∈aV (C.all a) key:=by
     unfold aV
     refine List.mem_filter.2 ⟨aPZ ho,?_⟩
     have hid:=hV x E hv
     unfold S.aU at hid
     unfold other
     rw[Bool.not_not,← hid,hkk,dG,dG]
     show Lib.hasPrefix (L key++[10]++L E.v) (L key++[10])=true
     rw[← Lib.hasPrefix_of_take,List.take_left]
     simp
    obtain⟨p1,p2⟩:=h3 x hx E hkk hv
    exact hn.elim p1 p2
   ·simp [hkk]
  exact⟨h1.sto,fun x E e=>hcut x E (h1.mem x E e) (.inl (h2.mem x E e)) (.inl e),fun x E e=>hcut x E (h1.dsk x E e) (.inr (h2.seen x E e)) (.inr e),h1.hd⟩
theorem aLO {n:Nat} (hn:n≤4096) (d:D.Dsk) (hd:D.Uni d) (hf:D.Fit 3 d):jW n 0 0 (fun _=>none) ⟨some ⟨d,0,[],S.marks n []⟩,fun _=>none,[]⟩ :=
 ⟨fun s h=>by
  obtain rfl:=Option.some.inj h
  exact⟨⟨hd,List.Pairwise.nil,zA _,fun _ h=>(by cases h),zA _,rfl,hn,fun _ h=>(by cases h),fun _ h=>(by cases h)⟩,hf⟩,fun _ _ h=>(by cases h),fun x E h=>by
  obtain⟨s,h1,_,h3⟩:=dY.1 h
  obtain rfl:=Option.some.inj h1
  exact absurd h3 (by unfold S.Sto.get D.find;simp),zA _⟩
end
end C
end Go.Proofs.YthjeglnkgdpijaaGreatDoor
