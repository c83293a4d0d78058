/- The walk of CopyEntry once more: its lists are typed rows of the call's own (turned from XObjK). Conditions: lists of at most 2^40 elements. The walks of rec.Decode and of Replay at no bytes. No condition. A store over a new disk where nothing fails. No program here. What vary.Key writes with: a strings.Builder of the call's own, strings.Join of a list. The walk of vary.Key. Conditions: lengths of at most 2^40; what is told at most 2^46 bytes. -/
import Derived.Test.YthjeglnkgdpijaaGreatDoorZ03
import Derived.RangeFuncBox
import Derived.RangeFuncNested
import Derived.RangeFuncLeaves
import Derived.OwnWalkIn
import Derived.TacticsInMore
import Derived.LoopIn
set_option maxHeartbeats 4000000
set_option maxRecDepth 100000
namespace Go.Proofs.YthjeglnkgdpijaaGreatDoor
open Go.RowKit
theorem copyBytesO_any (A:Option Addr) (c:Nat) (bs:List UInt8) (w:World) (hn:bs.length≤1099511627776) (hx:Rd w A bs.length 1 (bcells bs)) :
  Calls Tryz.prog 20 #[.slice A bs.length c] w (RetRow w 5 1 bs.length (bcells bs)):=by
 have HX:=Lib.hid (hx.alloc (.cells #[] 5))
 clear hx
 go_enter Tryz.func20,Tryz.ntmps20
 go_wp2_with (at_builtin;refine appB _ rfl (.tmp 5) (.tmp 6) rfl w.heap.size _ 0 0 [] rfl (Row.empty _ _ _ _ _) A bs.length c bs rfl HX.out (by omega) (by rw[World.size_alloc];omega) ?_;intro A1 c1 w1 hr1 ha1)
 have hb:=((Below.refl w.heap.size w).alloc (Nat.le_refl _) (.cells #[] 5)).trans (ha1.below (Row.empty _ w.heap.size 5 1 _) (by rw[World.size_alloc];omega))
 have e:0+bs.length=bs.length:=Nat.zero_add _
 rw[e]at hr1
 go_ret
 exact⟨A1,c1,rfl,hr1,hb⟩
open Go Go.Maps
def recV (r:R.Rc):Value:=.agg #[.int .i64 r.seq,.int .i64 r.op,.int .i64 r.no,.string r.id]
theorem rdec0_any (A:Option Addr) (c:Nat) (w:World):Calls Tryz.prog 169 #[.slice A 0 c] w (fun e w'=>e=.returned (.tuple #[recV R.Rc.zero,.int .i64 0,.int .i64 0])∧Below w.heap.size w w'):=by
 have HK:=Lib.hid (Blk.new w #[.int .i64 0,.int .i64 0,.int .i64 0,.string ⟨#[]⟩] 111)
 have HB:=Lib.hid ((Below.refl w.heap.size w).alloc (Nat.le_refl _) (.cells #[.int .i64 0,.int .i64 0,.int .i64 0,.string ⟨#[]⟩] 111))
 go_enter Tryz.func169,Tryz.ntmps169
 go_wp2
 obtain⟨z0,z1,z2,z3⟩:=HK.out.cells4
 (try simp only[Exit.inBlock,Exit.then])
 refine bodyPost_ret (v:=.tuple #[recV R.Rc.zero,.int .i64 0,.int .i64 0]) (by simp [results,Tryz.results169,go_sem,z0,z1,z2,z3,recV,R.Rc.zero]) rfl ?_
 exact⟨rfl,HB.out⟩
theorem recs0_any (l bx:Nat) (c:Nat) (A:Option Addr) (hA:A=none→c=0) (w:World) (hc:w.cell? ⟨bx,0,none⟩=some (.slice A 0 c)) :
  Calls Tryz.prog 168 #[.func (.yield l) #[] #[],.pointer (some ⟨bx,0,none⟩)] w (fun e w'=>(∃ v,e=.returned v)∧w.grownBy w' none):=by
 have HC:=Lib.hid (fun A c u=>rdec0_any A c u)
 by_cases h0:c=0
 ·subst h0
  go_enter Tryz.func168,Tryz.ntmps168
  go_wp2
  go_loopw [3,4] (fun a b wr=>a=.int .i64 0∧b=.int .i64 0∧wr=w) (fun _ _ _=>0)
  case atStart=>exact⟨rfl,rfl,rfl⟩
  case round =>
   obtain⟨rfl,rfl,rfl⟩:=hrel
   go_wp2_with fail
   refine (HC.out _ _ _).mono ?_
   rintro e w1 ⟨rfl,hb⟩
   have hg:wr.grownBy w1 none:=⟨hb.os,hb.tape,hb.output,hb.size,fun k hk _=>hb.block k hk⟩
   have HG:=Lib.hid (hg.trans (World.grownBy_alloc w1 (.cells #[.int .i64 0,.int .i64 0,.int .i64 0,.string ⟨#[]⟩] 111) none))
   have HK:=Lib.hid (Blk.new w1 #[.int .i64 0,.int .i64 0,.int .i64 0,.string ⟨#[]⟩] 111)
   clear hb hg HC
   unfold recV R.Rc.zero
   go_wp2
   refine bodyPost_ret (results_none rfl _ _ _) rfl ?_
   exact⟨⟨_,rfl⟩,HG.out⟩
 ·obtain⟨⟨b,o,f⟩,rfl⟩:∃ a,A=some a:=by
   cases A with
   | none=>exact absurd (hA rfl) h0
   | some a=>exact⟨a,rfl⟩
  have hcp:0 < c:=by omega
  go_enter Tryz.func168,Tryz.ntmps168
  go_wp2
  go_loopw [3,4] (fun a b wr=>a=.int .i64 0∧b=.int .i64 0∧wr=w) (fun _ _ _=>0)
  case atStart=>exact⟨rfl,rfl,rfl⟩
  case round =>
   obtain⟨rfl,rfl,rfl⟩:=hrel
   go_wp2_with fail
   refine (HC.out _ _ _).mono ?_
   rintro e w1 ⟨rfl,hb⟩
   have hg:wr.grownBy w1 none:=⟨hb.os,hb.tape,hb.output,hb.size,fun k hk _=>hb.block k hk⟩
   have HG:=Lib.hid (hg.trans (World.grownBy_alloc w1 (.cells #[.int .i64 0,.int .i64 0,.int .i64 0,.string ⟨#[]⟩] 111) none))
   have HK:=Lib.hid (Blk.new w1 #[.int .i64 0,.int .i64 0,.int .i64 0,.string ⟨#[]⟩] 111)
   clear hb hg HC
   unfold recV R.Rc.zero
   go_wp2
   refine bodyPost_ret (results_none rfl _ _ _) rfl ?_
   exact⟨⟨_,rfl⟩,HG.out⟩
theorem srecords_any (A:Option Addr) (n c:Nat) (w:World) :
  Calls Tryz.prog 135 #[.slice A n c] w (fun e w'=>e=.returned (.func (.func 168) #[] #[.pointer (some ⟨w.heap.size,0,none⟩)])∧w'=w.alloc (.cells #[.slice A n c] 39)):=by
 go_enter Tryz.func135,Tryz.ntmps135
 go_wp2
 go_ret
 exact⟨rfl,rfl⟩
theorem recs0_stops (n bx n₀:Nat) (A:Option Addr) (c:Nat) (hA:A=none→c=0) (w:World) (hB:bx < w.heap.size) (hc:w.cell? ⟨bx,0,none⟩=some (.slice A 0 c)) :
  SeqStopsK Fence.wide n Tryz.prog 168 #[.pointer (some ⟨bx,0,none⟩)] (fun x:Empty=>x.elim) (Below n₀) (fun ys=>ys=[]) (fun _=>False) 0 w:=fun l J Jx W hW hJ _ _ h0 =>
 callsIn_wide.2 ((recs0_any l bx c A hA W ((hW.cell (p:=⟨bx,0,none⟩) hB).trans hc)).mono fun e w' h=>⟨h.1,.inl ⟨[],rfl,hJ [] W w' none h0 h.2 (fun r hr=>by cases hr)⟩⟩)
theorem replay0_any (A:Option Addr) (c:Nat) (hA:A=none→c=0) (w:World) :
  Calls Tryz.prog 97 #[.slice A 0 c] w (fun e w'=>e=.returned (.tuple #[.slice none 0 0,.int .i64 0])∧Below w.heap.size w w'):=by
 refine (callsIn_wide (n:=9)).1 ?_
 refine callsIn_of_wp_marks Tryz.func97 rfl trivial ?_ rfl
 simp only[Tryz.ntmps97,List.size_toArray,List.length_cons,List.length_nil,Nat.reduceAdd,Nat.reduceSub,Array.replicate_succ,Array.replicate_zero,List.push_toArray,List.append_toArray,List.nil_append,List.cons_append]
 gi_wp2_with fail
 refine⟨trivial,(callsIn_wide.2 (srecords_any _ _ _ _)).mono ?_⟩
 rintro e w' ⟨rfl,rfl⟩
 gi_wp2_with fail
 have bO:Boxed ((w.alloc (.cells #[.slice none 0 0] 103)).alloc (.cells #[.int .i64 0] 3)) w.heap.size 103 (.slice none 0 0):=(Boxed.new w 103 (.slice none 0 0)).alloc _
 have bN:Boxed ((w.alloc (.cells #[.slice none 0 0] 103)).alloc (.cells #[.int .i64 0] 3)) (w.heap.size+1) 3 (.int .i64 0):=by
  have:=Boxed.new (w.alloc (.cells #[.slice none 0 0] 103)) 3 (.int .i64 0)
  rwa [World.size_alloc]at this
 have bX:Boxed (((w.alloc (.cells #[.slice none 0 0] 103)).alloc (.cells #[.int .i64 0] 3)).alloc (.cells #[.slice A 0 c] 39)) (w.heap.size+2) 39 (.slice A 0 c):=by
  have:=Boxed.new ((w.alloc (.cells #[.slice none 0 0] 103)).alloc (.cells #[.int .i64 0] 3)) 39 (.slice A 0 c)
  rwa [World.size_alloc,World.size_alloc]at this
 have hB0:Below w.heap.size w (((w.alloc (.cells #[.slice none 0 0] 103)).alloc (.cells #[.int .i64 0] 3)).alloc (.cells #[.slice A 0 c] 39)):=(((Below.refl _ w).alloc (Nat.le_refl _) _).alloc (by simp only[World.size_alloc];omega) _).alloc (by simp only[World.size_alloc];omega) _
 have bO1:=bO.alloc (.cells #[.slice A 0 c] 39)
 have bN1:=bN.alloc (.cells #[.slice A 0 c] 39)
 clear bO bN
 refine wpIn_rangeFunc_ownG rfl (by decide) (gf:=168) (lb:=#[.pointer (some ⟨w.heap.size+2,0,none⟩)]) rfl trivial (enters_of Tryz.func168 (by kernel_rfl) rfl)
  (recs0_stops 8 (w.heap.size+2) w.heap.size A c hA _ (by simp) bX.cell) belowK_t (belowK_b (by simp only[World.size_alloc];omega)) (Below.refl _ _) (fun x=>x.elim)
  (fun _ W=>(Boxed W w.heap.size 103 (.slice none 0 0)∧Boxed W (w.heap.size+1) 3 (.int .i64 0))∧Below w.heap.size w W)
  (fun _ _ _=>False)
  (OwnFrom.and (OwnFrom.and (Own.from (boxed_own w.heap.size 103 (fun _=>.slice none 0 0)) _) (Own.from (boxed_own (w.heap.size+1) 3 (fun _=>.int .i64 0)) _)) (ownFrom_below (Nat.le_refl _) (by simp only[World.size_alloc];omega)))
  (fun _ _ _ _ _ hs _ _=>hs)
  ⟨⟨bO1,bN1⟩,hB0⟩
  (fun x=>x.elim) (fun _ x=>x.elim) (fun _ _ x=>x.elim) ?done ?stop
 case done =>
  rintro D ys W hD rfl ⟨⟨hO,hN⟩,hB⟩ hK
  have hc:=hO.cell
  have hn:=hN.cell
  gi_wp2_with fail
  refine wpIn_wide.2 ?_
  go_region
  all_goals gi_wp2
  have hK2:W.drew.heap[D]?=some (.deferred (some [])):=hK
  refine⟨by simp,.inl ⟨_,_,rfl,run_takeDeferred hK2,?_⟩⟩
  refine⟨_,results_tmp2 rfl _ _ _,rfl,hB.drew.trans (belowK_b (w:=w) (Nat.le_refl _) W.drew D _ _ (by simp only[World.size_alloc]at hD;omega) hK2 rfl rfl)⟩
 case stop =>
  rintro D c pre W _ _ h _
  exact h.elim
end Go.Proofs.YthjeglnkgdpijaaGreatDoor
namespace Go.Proofs.YthjeglnkgdpijaaGreatDoor
namespace S
open D (cont Clm)
def fresh (room:Int):D.Dsk:=⟨[],[],[],[],[],room,[],-1,0⟩
theorem fresh_calm {room:Int} (h:0≤room):Clm (fresh room) :=
 ⟨rfl,rfl,⟨rfl,List.Pairwise.nil,List.Pairwise.nil,(fun _ h=>by cases h),(fun _ h=>by cases h),(fun _ h=>by cases h),rfl,fun _ h=>absurd h (Nat.not_lt_zero _)⟩,(fun _ h=>by cases h),h⟩
theorem fresh_fit {room:Int} (h:0≤room∧room≤1073741824):D.Fit 0 (fresh room) :=
 ⟨⟨(fun _ h=>by cases h),(fun _ h=>by cases h),(fun _ h=>by cases h)⟩,(fresh_calm h.1).ok,Int.le_refl _,Int.le_refl _,Nat.le_refl _,Nat.le_refl _,Nat.le_refl _,Nat.zero_le _,h,fun no=>by unfold D.Dsk.size fresh;simp⟩
theorem marks_len (n:Nat) (t:D.NM):(marks n t).length=n:=by unfold marks;simp
end S
open Go Go.RowKit
namespace V
def elems (ask:List FD) (nm:ByteArray):List ByteArray:=(F.values ask nm).flatMap F.list
def line (ask:List FD) (nm:ByteArray):List UInt8:=T.fold (L nm)++((if F.values ask nm=[] then [] else 58::Lib.join ((elems ask nm).map L) [44])++[10])
def key (names:List ByteArray) (ask:List FD):List UInt8:=names.flatMap (line ask)
end V
def Bld (w:World) (b:Nat) (l:List UInt8) (u:World):Prop:=Lib.IsBuilder 140 5 b b (Lib.byteCells l) u∧Below b w u∧b≤u.heap.size
section
variable {w u v:World} {b:Nat} {l:List UInt8}
theorem Bld.below (h:Bld w b l u) (hb:Below u.heap.size u v):Bld w b l v:=by
 refine⟨?_,below_then h.2.2 h.2.1 hb,Nat.le_trans h.2.2 hb.size⟩
 have hk:∀ {p:Value},Lib.BuilderAt 140 5 b b p (Lib.byteCells l) u→Lib.BuilderAt 140 5 b b p (Lib.byteCells l) v:=fun {p} ⟨h1,x,h2,h3,h4⟩ =>
  ⟨h1,x,(hb.block b (Array.getElem?_eq_some_iff.1 h2).1).trans h2,h3.kept (row:=none) ⟨hb.os,hb.tape,hb.output,hb.size,fun k hk _=>hb.block k hk⟩ (by cases x.ownBlock<;>simp),h4⟩
 exact h.1.imp hk hk
theorem Bld.str (h:Bld w b l u) (s:ByteArray) (hs:l.length+s.size≤140737488355328) :
  Calls Tryz.prog 79 #[.pointer (some ⟨b,0,none⟩),.string s] u (fun e v=>e=.returned (.tuple #[.int .i64 s.size,.nilIface])∧Bld w b (l++L s) v):=by
 refine (Any.Builder_WriteString { Tryz.lays156 with } Tryz.Builder_Extra_156 b b (Lib.byteCells l) s u h.1 (by rw[Lib.byteCells_length];exact hs) h.2.2).mono ?_
 rintro e v ⟨he,h1,h2⟩
 refine⟨he,.inr ?_,h.2.1.trans h2,Nat.le_trans h.2.2 h2.size⟩
 rw[Lib.byteCells_append]
 exact h1
theorem Bld.byte (h:Bld w b l u) (c:UInt8) (hs:l.length+1≤140737488355328) :
  Calls Tryz.prog 84 #[.pointer (some ⟨b,0,none⟩),.int .u8 c.toNat] u (fun e v=>e=.returned .nilIface∧Bld w b (l++[c]) v):=by
 refine (writeByte_any b b (Lib.byteCells l) c.toNat u h.1 (by rw[Lib.byteCells_length];exact hs) h.2.2).mono ?_
 rintro e v ⟨he,h1,h2⟩
 refine⟨he,.inr ?_,h.2.1.trans h2,Nat.le_trans h.2.2 h2.size⟩
 rw[Lib.byteCells_append]
 exact h1
theorem Bld.string (h:Bld w b l u):Calls Tryz.prog 85 #[.pointer (some ⟨b,0,none⟩)] u (fun e v=>e=.returned (.string (B l))∧Below b w v):=by
 refine (Tryz.Builder_String_any b b l u h.1 h.2.2).mono ?_
 rintro e v ⟨he,h2⟩
 exact⟨he,h.2.1.trans h2⟩
end
theorem joinRow_any (A:Option Addr) (n c:Nat) (xs:List ByteArray) (sep:ByteArray) (w:World) (h:Rd w A n 1 (scells xs)) (hn:n≤1099511627776) (hc:n≤c) (hj:(Lib.join (xs.map L) (L sep)).length≤140737488355328) :
  Calls Tryz.prog 83 #[.slice A n c,.string sep] w (RetS w (B (Lib.join (xs.map L) (L sep)))):=by
 have hl:xs.length=n:=by
  have:=h.1
  unfold scells at this
  rw[List.length_map]at this
  omega
 rcases Nat.eq_zero_or_pos n with rfl | h0
 ·have hx:xs=[]:=List.length_eq_zero_iff.1 hl
  subst hx
  refine (Tryz.strings_Join_none A c sep w).mono ?_
  rintro e w' ⟨rfl,rfl⟩
  exact⟨rfl,Below.refl _ _⟩
 ·obtain⟨b,o,rfl,hlt,hcc⟩:=h.2 h0
  subst hl
  refine (Tryz.strings_Join b o c xs sep w (fun j x hx=>hcc j _ ?_) hlt (by omega) hc hj).mono ?_
  ·unfold scells
   rw[List.getElem?_map,hx]
   rfl
  ·rintro e w' ⟨rfl,h2⟩
   exact⟨rfl,h2⟩
theorem elems_snoc (vs:List ByteArray) (k:Nat) (h:k < vs.length):(vs.take (k+1)).flatMap F.list=(vs.take k).flatMap F.list++F.list (vs[k]'h):=by
 rw[List.take_succ_eq_append_getElem h,List.flatMap_append]
 simp
theorem elems_take_le (vs:List ByteArray) (k:Nat):((vs.take k).flatMap F.list).length≤(vs.flatMap F.list).length:=by
 conv=>rhs;rw[← List.take_append_drop k vs,List.flatMap_append,List.length_append]
 omega
theorem key_snoc (names:List ByteArray) (ask:List FD) (k:Nat) (h:k < names.length):V.key (names.take (k+1)) ask=V.key (names.take k) ask++V.line ask (names[k]'h):=by
 unfold V.key
 rw[List.take_succ_eq_append_getElem h,List.flatMap_append]
 simp
theorem key_take_le (names:List ByteArray) (ask:List FD) (k:Nat):(V.key (names.take k) ask).length≤(V.key names ask).length:=by
 unfold V.key
 conv=>rhs;rw[← List.take_append_drop k names,List.flatMap_append,List.length_append]
 omega
theorem key_any (X Y:Option Addr) (nn cn ny cy:Nat) (names:List ByteArray) (ask:List FD) (w:World) (hx:Rd w X nn 1 (scells names)) (hy:Rd w Y ny 2 (fcells ask)) (hnn:nn≤1099511627776) (hny:ny≤1099511627776) (hly:ask.length=ny) (hf:FSmall ask)
  (hns:∀ x∈names,x.size≤1099511627776) (hel:∀ x∈names,(V.elems ask x).length≤1099511627776) (hkl:(V.key names ask).length≤70368744177664) :
  Calls Tryz.prog 40 #[.slice X nn cn,.slice Y ny cy] w (RetS w (B (V.key names ask))):=by
 have hlx:names.length=nn:=by
  have:=hx.1
  unfold scells at this
  rw[List.length_map]at this
  omega
 have HX:=Lib.hid hx
 have HY:=Lib.hid hy
 have HLX:=Lib.hid hlx
 have HNS:=Lib.hid hns
 have HEL:=Lib.hid hel
 have HKL:=Lib.hid hkl
 have HF:=Lib.hid hf
 have HLY:=Lib.hid hly
 clear hx hy hlx hns hel hkl hf hly
 have h0:Bld w w.heap.size [] (w.alloc (.cells #[.pointer none,.slice none 0 0] 140)) :=
  ⟨.inl ⟨Nat.le_refl _,_,heap_alloc_new w _,World.ownsRow_nil _ _ _ _,by simp [Value.ownBlock]⟩,(Below.refl _ _).alloc (Nat.le_refl _) _,by simp⟩
 have H0:=Lib.hid h0
 clear h0
 go_enter Tryz.func40,Tryz.ntmps40
 go_wp2
 go_loopw [7,8,9,11,14,26] (fun _ _ _ _ i _ wr=>∃ k:Nat,k≤nn∧i=.int .i64 k∧Bld w w.heap.size (V.key (names.take k) ask) wr) (fun _ _ _ _ i _ _=>nn - (intOf i).toNat)
 case atStart=>exact⟨0,Nat.zero_le _,rfl,H0.out⟩
 case round =>
  obtain⟨k,hk,rfl,hbl⟩:=hrel
  have HBL:=Lib.hid hbl
  clear hbl
  obtain⟨wo,rfl⟩:∃ wo:World,wo=wr:=⟨_,rfl⟩
  by_cases hlt:k < nn
  ·have hkl:k < names.length:=by rw[HLX.out];exact hlt
   obtain⟨b,o,rfl,hb,c1⟩:=(HX.out.below HBL.out.2.1).str hlt HLX.out
   have hxm:=List.getElem_mem hkl
   have HKS:=Lib.hid (key_snoc names ask k hkl)
   have HKT:=Lib.hid (key_take_le names ask (k+1))
   have hs:=HNS.out _ hxm
   have HE:=Lib.hid (HEL.out _ hxm)
   obtain⟨x,hxk⟩:∃ x,names[k]'hkl=x:=⟨_,rfl⟩
   rw[hxk]at c1 hs HE HKS
   clear hxm hxk hb
   have HSX:=Lib.hid hs
   have HFO:=Lib.hid (fold_any x wo hs)
   go_wp2_with fail
   refine HFO.out.mono ?_
   rintro e w1 ⟨rfl,hb1⟩
   have HB1:=Lib.hid (HBL.out.below hb1)
   clear hb1 HFO c1
   obtain⟨kp,hkp⟩:∃ kp,V.key (names.take k) ask=kp:=⟨_,rfl⟩
   obtain⟨fo,hfo⟩:∃ fo,T.fold (L x)=fo:=⟨_,rfl⟩
   obtain⟨vs,hvs⟩:∃ vs,F.values ask x=vs:=⟨_,rfl⟩
   obtain⟨es,hes⟩:∃ es,vs.flatMap F.list=es:=⟨_,rfl⟩
   obtain⟨tl,htl⟩:∃ tl:List UInt8,(if vs=[] then [] else 58::Lib.join (es.map L) [44])=tl:=⟨_,rfl⟩
   have hli:V.line ask x=fo++(tl++[10]):=by
    unfold V.line V.elems
    rw[hfo,hvs,hes,htl]
   have hle:es.length≤1099511627776:=by
    have:=HE.out
    unfold V.elems at this
    rwa [hvs,hes]at this
   have hsum:kp.length+(fo.length+(tl.length+1))≤70368744177664:=by
    have h1:=HKT.out
    have h2:=HKL.out
    rw[HKS.out,hkp,hli,List.length_append,List.length_append,List.length_append]at h1
    simp only[List.length_singleton]at h1
    omega
   rw[hkp,hli]at HKS
   rw[hkp]at HB1
   rw[hfo]
   have HTL:=Lib.hid htl
   have HES:=Lib.hid hes
   have HLE:=Lib.hid hle
   have HSUM:=Lib.hid hsum
   have HVS:=Lib.hid (values_small (name:=x) HF.out)
   have HVA:=Lib.hid (fun u (hu:Bld w w.heap.size (kp++L (B fo)) u)=>values_any Y ny cy ask x u hny HLY.out HF.out HSX.out (HY.out.below hu.2.1))
   have HVL:=Lib.hid (F.values_le ask x)
   rw[hvs]at HVS HVA HVL
   have HW1:=Lib.hid (HB1.out.str (B fo) (by rw[L_size,L_B];omega))
   clear hkp hfo hvs hes htl hli hle hsum HKT HE HB1 hs HBL
   go_wp2_with fail
   refine HW1.out.mono ?_
   rintro e w2 ⟨rfl,hb2⟩
   have HB2:=Lib.hid hb2
   clear hb2 HW1
   go_wp2_with fail
   refine (HVA.out w2 HB2.out).mono ?_
   rintro e w3 ⟨E,ce,rfl,hE,hb3⟩
   have HB3:=Lib.hid (HB2.out.below hb3)
   have HRE:=Lib.hid hE.rd
   obtain⟨nv,hnv⟩:∃ nv,vs.length=nv:=⟨_,rfl⟩
   rw[hnv]at HRE HVL ⊢
   have HNV:=Lib.hid hnv
   have hnv2:nv≤1099511627776:=by
    have:=HVL.out
    have:=HLY.out
    omega
   clear hE hb3 HB2 HVA hnv
   go_wp2_with fail
   go_loopw [8,11,26] (fun o _ i wi=>∃ (j m:Nat) (A:Option Addr) (c:Nat),j≤nv∧i=.int .i64 j∧o=.slice A m c∧m=((vs.take j).flatMap F.list).length∧Row wi w3.heap.size 9 1 A m c (scells ((vs.take j).flatMap F.list))∧Below w3.heap.size w3 wi) (fun _ _ i _=>nv - (intOf i).toNat)
   case atStart=>exact⟨0,0,none,0,Nat.zero_le _,rfl,rfl,rfl,Row.none_ _ _ _ _,Below.refl _ _⟩
   case round =>
    obtain⟨j,m,A,c,hj,rfl,rfl,hm,hrow,hbe⟩:=hrel
    have HM:=Lib.hid hm
    have HROW:=Lib.hid hrow
    have HBE:=Lib.hid hbe
    clear hm hrow hbe
    by_cases hlt2:j < nv
    ·have hjl:j < vs.length:=by rw[HNV.out];exact hlt2
     obtain⟨b2,o2,rfl,hbb2,c2⟩:=(HRE.out.below HBE.out).str hlt2 HNV.out
     have hsv:=HVS.out _ (List.getElem_mem hjl)
     have hsn:=elems_snoc vs j hjl
     have hel:=elems_take_le vs (j+1)
     obtain⟨y,hyv⟩:∃ y,vs[j]'hjl=y:=⟨_,rfl⟩
     rw[hyv]at c2 hsv hsn
     rw[hsn,List.length_append,HES.out]at hel
     have hml:m+(F.list y).length≤4398046511104:=by
      have:=HLE.out
      have:=HM.out
      omega
     have HSN:=Lib.hid hsn
     have HLI:=Lib.hid (fun u=>list_any y u hsv)
     clear hsn hel hyv hsv hbb2
     go_wp2_with fail
     refine (HLI.out _).mono ?_
     rintro e w4 ⟨G,cg,rfl,hG,hb4⟩
     have HG:=Lib.hid hG.rd
     have HR4:=Lib.hid (HROW.out.below hb4)
     have HB4:=Lib.hid (below_then HBE.out.size HBE.out hb4)
     have HZ4:Hid (w3.heap.size≤w4.heap.size):=Lib.hid HB4.out.size
     clear hG hb4 HLI HROW HBE c2
     go_wp2_with (at_builtin;refine appS _ rfl (.tmp 30) (.tmp 32) rfl w3.heap.size A m c _ rfl HR4.out _ _ _ _ rfl HG.out hml HZ4.out ?_;intro A5 c5 w5 hr5 ha5;rw[← HSN.out]at hr5;have HR5:=Lib.hid hr5;have HB5:=Lib.hid (HB4.out.trans (ha5.below HR4.out HZ4.out));clear hr5 ha5)
     go_roundw
     case rel=>exact⟨j+1,m+(F.list y).length,A5,c5,by omega,by go_num,rfl,by rw[HSN.out,List.length_append,HM.out],HR5.out,HB5.out⟩
     case measure=>simp [intOf];omega
    ·have hjn:j=nv:=by omega
     have ht:vs.take j=vs:=List.take_of_length_le (by have:=HNV.out;omega)
     rw[ht,HES.out]at HM HROW
     have HB4:=Lib.hid (HB3.out.below HBE.out)
     clear ht HB3
     by_cases hv:vs=[]
     ·have hn0:nv=0:=by rw[← HNV.out,hv];rfl
      have htn:tl=[]:=by rw[← HTL.out,if_pos hv]
      subst hn0
      subst htn
      have HBY:=Lib.hid (HB4.out.byte 10 (by rw[List.length_append,L_B];have:=HSUM.out;simp only[List.length_nil]at this;omega))
      clear hv
      go_wp2_with fail
      refine HBY.out.mono ?_
      rintro e w5 ⟨rfl,hb5⟩
      rw[L_B,List.append_assoc,show fo++[10]=fo++([]++[10]) from rfl,← HKS.out]at hb5
      have HB5:=Lib.hid hb5
      clear hb5 HBY HB4
      go_wp2_with fail
      go_roundw
      case rel=>exact⟨k+1,by omega,by go_num,HB5.out⟩
      case measure=>simp [intOf];omega
     ·have hn0:0 < nv:=by
       rw[← HNV.out]
       exact List.length_pos_iff.2 hv
      have htn:tl=58::Lib.join (es.map L) [44]:=by rw[← HTL.out,if_neg hv]
      obtain⟨jn,hjn⟩:∃ jn,Lib.join (es.map L) [44]=jn:=⟨_,rfl⟩
      rw[hjn]at htn
      subst htn
      have hsu:kp.length+fo.length+(jn.length+2)≤70368744177664:=by
       have:=HSUM.out
       simp only[List.length_cons]at this
       omega
      have HSU:=Lib.hid hsu
      have HJN:=Lib.hid hjn
      have HJ:=Lib.hid (fun u (hu:Below wr.heap.size wr u)=>joinRow_any A m c es ⟨#[44]⟩ u ((HROW.out.below hu).rd) (by rw[HM.out];exact HLE.out) HROW.out.cap.1 (by show (Lib.join (es.map L) [44]).length≤_;rw[HJN.out];omega))
      rw[show L (⟨#[44]⟩:ByteArray)=[44] from rfl,hjn]at HJ
      obtain⟨jb,hjb⟩:∃ jb,B jn=jb:=⟨_,rfl⟩
      have hjs:jb.size=jn.length:=by rw[← hjb,L_size,L_B]
      have hLj:L jb=jn:=by rw[← hjb];rfl
      rw[hjb]at HJ
      have hc1:¬ 9223372036854775807 < (⟨#[58]⟩:ByteArray).size+jb.size:=by rw[show (⟨#[58]⟩:ByteArray).size=1 from rfl];omega
      have hc2:¬ 9223372036854775807 < 1+jb.size:=by omega
      have HLJ:=Lib.hid hLj
      have HJS:=Lib.hid hjs
      clear hjb hLj hjs
      have hn1:¬ nv=0:=by omega
      have hn2:(nv:Int) > 0:=by omega
      clear hv hjn
      go_wp2_with fail
      refine (HJ.out _ (Below.refl _ _)).mono ?_
      rintro e w5 ⟨rfl,hb5⟩
      have HB5:=Lib.hid (HB4.out.below hb5)
      have HWS:=Lib.hid (HB5.out.str (⟨#[58]⟩++jb) (by rw[L_size,L_append,L_B,List.length_append,List.length_append,HLJ.out];have:=HSU.out;simp only[show L (⟨#[58]⟩:ByteArray)=[58] from rfl,List.length_singleton];omega))
      clear hb5 HJ HB4
      go_wp2_with fail
      refine HWS.out.mono ?_
      rintro e w6 ⟨rfl,hb6⟩
      rw[L_append,L_B,HLJ.out,show L (⟨#[58]⟩:ByteArray)=[58] from rfl]at hb6
      have HBY:=Lib.hid (hb6.byte 10 (by rw[List.length_append,List.length_append,List.length_append];have:=HSU.out;simp only[List.length_singleton];omega))
      clear hb6 HWS HB5
      go_wp2_with fail
      refine HBY.out.mono ?_
      rintro e w7 ⟨rfl,hb7⟩
      have e7:kp++fo++([58]++jn)++[10]=kp++(fo++(58::jn++[10])):=by simp
      rw[e7,← HKS.out]at hb7
      have HB7:=Lib.hid hb7
      clear hb7 HBY e7
      go_wp2_with fail
      go_roundw
      case rel=>exact⟨k+1,by omega,by go_num,HB7.out⟩
      case measure=>simp [intOf];omega
  ·have ht:names.take k=names:=List.take_of_length_le (by have:=HLX.out;omega)
   rw[ht]at HBL
   have HS:=Lib.hid HBL.out.string
   clear ht HBL
   go_wp2_with fail
   refine HS.out.mono ?_
   rintro e w1 ⟨rfl,hb1⟩
   have HB1:=Lib.hid hb1
   clear hb1 HS
   go_wp2
   go_ret
   exact⟨rfl,HB1.out⟩
end Go.Proofs.YthjeglnkgdpijaaGreatDoor
