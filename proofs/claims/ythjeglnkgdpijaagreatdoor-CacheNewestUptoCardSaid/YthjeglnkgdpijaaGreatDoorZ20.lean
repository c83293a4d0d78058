/- Rows of entries, and lists of a script's steps, in memory. No condition: plain lemmas. A bounded table's items in their order, and where each lies in the ring. No program here. Lists of names sorted, and without doubles. No program here. slices.Sort and slices.Compact at a row of the call's own: what the row is then. -/
import Derived.Test.YthjeglnkgdpijaaGreatDoorZ30
import Derived.Lib.SlicesCompact
import Derived.Sort.OwnSorted
namespace Go.Proofs.YthjeglnkgdpijaaGreatDoor
open Go Go.RowKit Go.Maps
structure EP where
 E:O.Ent
 A:Option Addr
 c:Nat
 X:Option Addr
 d:Nat
def EP.v (p:EP):Value:=entV p.E p.A p.c p.X p.d
def ecells:List EP→List Value
 | []=>[]
 | p::t=>.string p.E.k::.string p.E.v::.int .i64 p.E.s::.string p.E.r::.int .i64 p.E.m::.slice p.A p.E.fs.length p.c::.slice p.X p.E.body.length p.d::.int .i64 p.E.asked::.int .i64 p.E.got::ecells t
def ERd (w:World) (p:EP):Prop:=Rd w p.A p.E.fs.length 2 (fcells p.E.fs)∧Rd w p.X p.E.body.length 1 (bcells p.E.body)
def EOwn (w:World) (base:Nat) (p:EP):Prop:=Row w base 60 2 p.A p.E.fs.length p.c (fcells p.E.fs)∧Row w base 5 1 p.X p.E.body.length p.d (bcells p.E.body)
section
variable {w w':World} {base:Nat} {p:EP} {F F':Nat→Prop}
theorem ERd.below (h:ERd w p) (hb:Below w.heap.size w w'):ERd w' p:=⟨h.1.below hb,h.2.below hb⟩
theorem EOwn.rd (h:EOwn w base p):ERd w p:=⟨h.1.rd,h.2.rd⟩
theorem EOwn.below (h:EOwn w base p) (hb:Below w.heap.size w w'):EOwn w' base p:=⟨h.1.below hb,h.2.below hb⟩
theorem EOwn.mono (h:EOwn w base p) {b:Nat} (hb:b≤base):EOwn w b p:=⟨h.1.mono hb,h.2.mono hb⟩
theorem EOwn.went (h:EOwn w base p) (hw:Went F w F' w') (hF:∀ k,F k→k < base):EOwn w' base p :=
 ⟨hw.row h.1 (fun k hk hf=>by have:=(h.1.lt k hk).1;have:=hF k hf;omega),hw.row h.2 (fun k hk hf=>by have:=(h.2.lt k hk).1;have:=hF k hf;omega)⟩
end
structure ERow (w:World) (base:Nat) (A:Option Addr) (c:Nat) (l:List EP):Prop where
 row:Row w base 41 9 A l.length c (ecells l)
 all:∀ p∈l,EOwn w base p
section
variable {w w' w1 w2:World} {base:Nat} {A:Option Addr} {c:Nat} {l:List EP} {F F':Nat→Prop}
theorem ERow.nil (w:World) (base:Nat) (A:Option Addr):ERow w base A 0 []:=⟨Row.empty _ _ _ _ _,by simp⟩
theorem ERow.below (h:ERow w base A c l) (hb:Below w.heap.size w w'):ERow w' base A c l:=⟨h.row.below hb,fun p hp=>(h.all p hp).below hb⟩
theorem ERow.went (h:ERow w base A c l) (hw:Went F w F' w') (hF:∀ k,F k→k < base):ERow w' base A c l :=
 ⟨hw.row h.row (fun k hk hf=>by have:=(h.row.lt k hk).1;have:=hF k hf;omega),fun p hp=>(h.all p hp).went hw hF⟩
theorem ERow.snoc {A':Option Addr} {c':Nat} {p:EP} (h:ERow w1 base A c l) (hx:EOwn w1 base p) (hr:Row w2 base 41 9 A' (l.length+1) c' (ecells (l++[p]))) (ha:App w1 w2 A c A' c'):ERow w2 base A' c' (l++[p]):=by
 refine⟨by rw[List.length_append];exact hr,fun q hq=>?_⟩
 have hq1:EOwn w1 base q:=by
  rcases List.mem_append.1 hq with hm | hm
  ·exact h.all q hm
  ·rw[List.mem_singleton.1 hm];exact hx
 exact⟨hq1.1.keptG ha.grown (fun k hk e=>(hq1.1.tag hk).ne (h.row.tag e) (by decide) rfl),hq1.2.keptG ha.grown (fun k hk e=>(hq1.2.tag hk).ne (h.row.tag e) (by decide) rfl)⟩
end
end Go.Proofs.YthjeglnkgdpijaaGreatDoor
namespace Go.Proofs.YthjeglnkgdpijaaGreatDoor
structure It where
 id:ByteArray
 p:EP
 z:Nat
 k:Nat
namespace Lr
def head (t:Nat):Addr:=⟨t,3,none⟩
def adr (t:Nat) (l:List It):Nat→Addr
 | 0=>head t
 | i+1=>match l[i]? with
  | some x=>⟨x.k,0,none⟩
  | none=>head t
section
variable {t:Nat} {l:List It} {x:It} {i j:Nat}
theorem adr_succ:adr t l (i+1)=(match l[i]? with
  | some x=>⟨x.k,0,none⟩
  | none=>head t):=rfl
theorem adr_node (h:i < l.length):adr t l (i+1)=⟨(l[i]'h).k,0,none⟩:=by
 rw[adr_succ,List.getElem?_eq_getElem h]
theorem adr_end:adr t l (l.length+1)=head t:=by
 rw[adr_succ,List.getElem?_eq_none (Nat.le_refl _)]
theorem adr_erase:adr t (l.eraseIdx j) i=if i≤j then adr t l i else adr t l (i+1):=by
 cases i with
 | zero=>rw[if_pos (Nat.zero_le _)];rfl
 | succ i =>
  rw[adr_succ,List.getElem?_eraseIdx,adr_succ,adr_succ]
  by_cases h:i < j
  ·rw[if_pos h,if_pos (by omega)]
  ·rw[if_neg h,if_neg (by omega)]
theorem adr_spot:(adr t l i).spot=none:=by
 cases i with
 | zero=>rfl
 | succ i =>
  rw[adr_succ]
  cases l[i]?<;>rfl
def peek (l:List It) (id:ByteArray):Option It:=l.find? fun x=>decide (x.id=id)
def used (l:List It):Nat:=(l.map (·.z)).sum
def ids (l:List It):List ByteArray:=l.map (·.id)
def tab:List It→D.NM
 | []=>[]
 | x::r=>D.put (tab r) x.id x.k
theorem peek_some {id:ByteArray} (h:peek l id=some x):∃ j,∃ hj:j < l.length,l[j]=x∧x.id=id:=by
 have h1:=List.mem_of_find?_eq_some h
 have h2:x.id=id:=by simpa using List.find?_some h
 obtain⟨j,hj,e⟩:=List.getElem_of_mem h1
 exact⟨j,hj,e,h2⟩
theorem peek_at (hn:(ids l).Nodup) (hj:j < l.length):peek l l[j].id=some l[j]:=by
 induction l generalizing j with
 | nil=>exact absurd hj (Nat.not_lt_zero _)
 | cons y r ih =>
  have hn':=hn
  unfold ids at hn'
  rw[List.map_cons,List.nodup_cons]at hn'
  unfold peek
  rw[List.find?_cons]
  cases j with
  | zero=>simp
  | succ j =>
   have hj':j < r.length:=by simpa using hj
   have hne:¬ y.id=r[j].id:=fun e=>hn'.1 (List.mem_map.2 ⟨_,List.getElem_mem hj',e.symm⟩)
   rw[List.getElem_cons_succ,decide_eq_false hne]
   exact ih hn'.2 hj'
theorem erase_sub (l:List It) (j:Nat):(l.eraseIdx j).Sublist l:=List.eraseIdx_sublist l j
theorem erase_nodup (hn:(ids l).Nodup) (j:Nat):(ids (l.eraseIdx j)).Nodup:=List.Nodup.sublist (List.Sublist.map _ (erase_sub l j)) hn
theorem peek_erase (hn:(ids l).Nodup) (hj:j < l.length) (id:ByteArray):peek (l.eraseIdx j) id=if id=(l[j]'hj).id then none else peek l id:=by
 induction l generalizing j with
 | nil=>exact absurd hj (Nat.not_lt_zero _)
 | cons y r ih =>
  have hn':=hn
  unfold ids at hn'
  rw[List.map_cons,List.nodup_cons]at hn'
  cases j with
  | zero =>
   rw[List.eraseIdx_cons_zero,List.getElem_cons_zero]
   by_cases h:id=y.id
   ·rw[if_pos h]
    unfold peek
    rw[List.find?_eq_none]
    intro z hz
    have:¬ z.id=id:=fun e=>hn'.1 (List.mem_map.2 ⟨z,hz,e.trans h⟩)
    simpa using this
   ·rw[if_neg h]
    unfold peek
    rw[List.find?_cons,decide_eq_false (fun e=>h e.symm)]
  | succ j =>
   have hj':j < r.length:=by simpa using hj
   have ih2:=ih hn'.2 hj'
   rw[List.eraseIdx_cons_succ,List.getElem_cons_succ]
   unfold peek at ih2 ⊢
   rw[List.find?_cons,List.find?_cons]
   by_cases h:y.id=id
   ·rw[decide_eq_true h]
    have hne:¬ id=r[j].id:=fun e=>hn'.1 (List.mem_map.2 ⟨_,List.getElem_mem hj',e.symm.trans h.symm⟩)
    rw[if_neg hne]
   ·rw[decide_eq_false h]
    exact ih2
theorem used_erase (hj:j < l.length):used (l.eraseIdx j)+(l[j]'hj).z=used l:=by
 induction l generalizing j with
 | nil=>exact absurd hj (Nat.not_lt_zero _)
 | cons y r ih =>
  cases j with
  | zero=>unfold used;simp;omega
  | succ j =>
   have hj':j < r.length:=by simpa using hj
   have:=ih hj'
   unfold used at this ⊢
   simp
   omega
end
end Lr
def sortB (l:List ByteArray):List ByteArray:=((l.map L).mergeSort fun x y=>decide (x≤y)).map B
def compactB (l:List ByteArray):List ByteArray:=(Lib.compact (l.map L)).map B
theorem sortB_len (l:List ByteArray):(sortB l).length=l.length:=by
 unfold sortB
 rw[List.length_map,List.length_mergeSort,List.length_map]
theorem le_total_bytes (a b:List UInt8):(decide (a≤b)||decide (b≤a))=true:=by
 rcases List.le_total a b with h | h
 ·rw[decide_eq_true h];rfl
 ·rw[decide_eq_true h,Bool.or_true]
theorem sorted_bytes (l:List (List UInt8)):(l.mergeSort fun x y=>decide (x≤y)).Pairwise fun a b=>a≤b:=by
 have h:=List.pairwise_mergeSort (le:=fun x y:List UInt8=>decide (x≤y)) (fun a b c h1 h2=>decide_eq_true (List.le_trans (of_decide_eq_true h1) (of_decide_eq_true h2))) le_total_bytes l
 exact h.imp fun h=>of_decide_eq_true h
theorem compact_sorted {l:List (List UInt8)} (h:l.Pairwise fun a b=>a≤b):((Lib.compact l).Pairwise fun a b=>a < b)∧∀ x,x∈Lib.compact l↔x∈l:=by
 have hle:∀ i j,i≤j→j < l.length→l.toArray[i]!≤l.toArray[j]!:=fun i j hij hj=>by
  have hi:i < l.length:=by omega
  rcases Nat.lt_or_ge i j with hlt | hge
  ·have:=List.pairwise_iff_getElem.1 h i j hi hj hlt
   simpa [hi,hj] using this
  ·have:i=j:=by omega
   subst this
   exact List.le_refl _
 unfold Lib.compact Lib.compactUpTo
 constructor
 ·rw[List.pairwise_map]
  have hr:((List.range l.length).filter (Lib.keeps l.toArray)).Pairwise fun a b=>a < b:=List.Pairwise.sublist List.filter_sublist List.pairwise_lt_range
  refine List.Pairwise.imp_of_mem ?_ hr
  intro i j hi hj hij
  obtain⟨_,hi2⟩:=List.mem_filter.1 hi
  obtain⟨hj1,hj2⟩:=List.mem_filter.1 hj
  have hjl:=List.mem_range.1 hj1
  have hne:l.toArray[j]!≠l.toArray[j - 1]!:=fun e=>by rw[Lib.keeps_neg (by omega) e]at hj2;cases hj2
  have h1:=hle i (j - 1) (by omega) (by omega)
  have h2:=hle (j - 1) j (by omega) hjl
  have h3:l.toArray[j - 1]! < l.toArray[j]!:=by
   by_cases h:l.toArray[j - 1]! < l.toArray[j]!
   ·exact h
   ·exact absurd (List.le_antisymm (show l.toArray[j]!≤l.toArray[j - 1]! from h) h2) hne
  exact List.lt_of_le_of_lt h1 h3
 ·intro x
  rw[List.mem_map]
  constructor
  ·rintro⟨j,hj,rfl⟩
   have hjl:=List.mem_range.1 (List.mem_filter.1 hj).1
   have:l.toArray[j]! = l[j]:=by simp [hjl]
   rw[this]
   exact List.getElem_mem hjl
  ·intro hx
   obtain⟨j,hj,e⟩:=List.getElem_of_mem hx
   -- the first place of x
   have key:∀ j,j < l.length→l.toArray[j]! = x→∃ i,i∈(List.range l.length).filter (Lib.keeps l.toArray)∧l.toArray[i]! = x:=by
    intro j
    induction j with
    | zero=>exact fun hj e=>⟨0,List.mem_filter.2 ⟨List.mem_range.2 hj,Lib.keeps_lt_one _ 0 (by omega)⟩,e⟩
    | succ j ih =>
     intro hj e
     by_cases hp:l.toArray[j]! = x
     ·exact ih (by omega) hp
     ·exact⟨j+1,List.mem_filter.2 ⟨List.mem_range.2 hj,Lib.keeps_pos (show l.toArray[j+1]!≠l.toArray[j+1 - 1]! by rw[Nat.add_sub_cancel,e];exact fun h=>hp h.symm)⟩,e⟩
   exact key j hj (by simp [hj,e])
def setB (l:List ByteArray):List ByteArray:=compactB (sortB l)
theorem setB_eq (l:List ByteArray):setB l=(Lib.compact ((l.map L).mergeSort fun x y=>decide (x≤y))).map B:=by
 unfold setB compactB sortB
 rw[List.map_map]
 congr 2
 conv=>rhs;rw[← List.map_id ((l.map L).mergeSort fun x y=>decide (x≤y))]
 apply List.map_congr_left
 intro x _
 exact L_B x
theorem setB_rise (l:List ByteArray):(setB l).Pairwise fun a b=>D.ltB a b=true:=by
 rw[setB_eq,List.pairwise_map]
 refine ((compact_sorted (sorted_bytes (l.map L))).1).imp fun {a b} h=>?_
 unfold D.ltB
 rw[L_B,L_B]
 exact decide_eq_true h
theorem mem_setB {l:List ByteArray} {x:ByteArray}:x∈setB l↔x∈l:=by
 rw[setB_eq,List.mem_map]
 constructor
 ·rintro⟨y,hy,rfl⟩
  rw[(compact_sorted (sorted_bytes (l.map L))).2,List.mem_mergeSort]at hy
  obtain⟨z,hz,rfl⟩:=List.mem_map.1 hy
  rw[B_L]
  exact hz
 ·intro hx
  exact⟨L x,by rw[(compact_sorted (sorted_bytes (l.map L))).2];exact List.mem_mergeSort.2 (List.mem_map_of_mem hx),B_L x⟩
theorem rise_ext:∀ {l m:List ByteArray},(l.Pairwise fun a b=>D.ltB a b=true)→(m.Pairwise fun a b=>D.ltB a b=true)→(∀ x,x∈l↔x∈m)→l=m
 | [],[],_,_,_=>rfl
 | [],y::_,_,_,h=>by have:=(h y).2 (by simp);cases this
 | x::_,[],_,_,h=>by have:=(h x).1 (by simp);cases this
 | x::l,y::m,hl,hm,h=>by
  obtain⟨h1,h2⟩:=List.pairwise_cons.1 hl
  obtain⟨h3,h4⟩:=List.pairwise_cons.1 hm
  have e:x=y:=by
   rcases List.mem_cons.1 ((h x).1 (by simp)) with e | hx
   ·exact e
   ·rcases List.mem_cons.1 ((h y).2 (by simp)) with e | hy
    ·exact e.symm
    ·have:=D.lt_trans (h3 x hx) (h1 y hy)
     rw[D.lt_irrefl]at this
     cases this
  subst e
  congr 1
  refine rise_ext h2 h4 fun z=>⟨fun hz=>?_,fun hz=>?_⟩
  ·rcases List.mem_cons.1 ((h z).1 (List.mem_cons_of_mem _ hz)) with e | hz'
   ·have:=h1 z hz
    rw[e,D.lt_irrefl]at this
    cases this
   ·exact hz'
  ·rcases List.mem_cons.1 ((h z).2 (List.mem_cons_of_mem _ hz)) with e | hz'
   ·have:=h3 z hz
    rw[e,D.lt_irrefl]at this
    cases this
   ·exact hz'
open Go Go.RowKit
theorem scells_enc (l:List ByteArray):scells l=(l.map L).map encStr:=by
 unfold scells
 rw[List.map_map]
 apply List.map_congr_left
 intro x _
 rfl
theorem enc_scells (l:List (List UInt8)):l.map encStr=scells (l.map B):=by
 unfold scells
 rw[List.map_map]
 apply List.map_congr_left
 intro x _
 rfl
section
variable {w w':World} {A:Option Addr} {n c base:Nat} {xs:List ByteArray}
theorem Row.forms (h:Row w base 9 1 A n c (scells xs)):n=xs.length∧(n=0∨∃ g cur,A=some ⟨g,0,none⟩∧base≤g∧w.heap[g]?=some (.cells cur 9 (0,0))∧n≤c∧c≤maxLen∧cur.size=c * 1∧cur.toList.take (n * 1)=(xs.map L).map encStr):=by
 have hl:=h.len
 unfold scells at hl
 rw[List.length_map]at hl
 refine⟨by omega,?_⟩
 rcases h with h | ⟨h1,_,_⟩
 ·rcases h.2 with ⟨h0,h1⟩ | ⟨g,cap,cur,h0,hg,hb,h1,h2,h3,h4⟩
  ·left
   cases h0
   have:=h.1
   first | omega | (rw[h1]at hl;simpa using hl.symm)
  ·cases h0
   exact .inr ⟨g,cur,rfl,hg,hb,h1,h2,h3,by rw[h4,scells_enc]⟩
 ·exact .inl h1
end
theorem sortRow_any (base:Nat) (A:Option Addr) (n c:Nat) (xs:List ByteArray) (w:World) (h:Row w base 9 1 A n c (scells xs)) (hn:n≤1099511627776) :
  Calls Tryz.prog 63 #[.slice A n c] w (fun e w'=>e=.returned (.tuple #[])∧Row w' base 9 1 A n c (scells (sortB xs))∧w.grownBy w' (ownB A c)):=by
 obtain⟨hl,h0 | ⟨g,cur,rfl,hg,hb,h1,h2,h3,h4⟩⟩:=h.forms
 ·subst h0
  have hx:xs=[]:=List.length_eq_zero_iff.1 hl.symm
  subst hx
  refine (Tryz.slices_Sort_string_none A c w).mono ?_
  rintro e w' ⟨rfl,rfl⟩
  exact⟨rfl,by simpa [sortB] using h,World.grownBy.refl _ _⟩
 ·have hl2:(xs.map L).length=n:=by rw[List.length_map,hl]
  have hlt:g < w.heap.size:=(Array.getElem?_eq_some_iff.1 hb).1
  have hH:Go.Sort.Holds encStr w g 0 (xs.map L).toArray:=holds_of_block hb (by rw[hl2,← Nat.mul_one n];exact h4)
  have hc:=Tryz.slices_Sort_string g 0 c (xs.map L) w hH hlt (by omega)
  rw[hl2]at hc
  refine hc.mono ?_
  rintro e w' ⟨rfl,q,os,rfl⟩
  refine⟨rfl,.inl ?_,?_⟩
  ·have ho:=ownsRow_sorted (n:=q) (os:=os) (ss:=xs.map L) (ts:=(xs.map L).mergeSort fun x y=>decide (x≤y)) (by simp) hg hb (by omega) h2 h3
   rw[hl2,enc_scells]at ho
   exact ho
  ·by_cases hc0:c=0
   ·have hx:xs=[]:=List.length_eq_zero_iff.1 (by omega)
    subst hx
    have hg2:=grownBy_sorted (w:=w) (g:=g) (n:=q) (os:=os) ((List.mergeSort ([].map L) fun x y=>decide (x≤y)).toArray)
    refine⟨hg2.os,hg2.tape,hg2.output,hg2.size,fun k hk _=>?_⟩
    by_cases hk2:k=g
    ·subst hk2
     rw[heap_sorted _ hb,hb]
     congr 2
     have h5:cur=#[]:=Array.eq_empty_of_size_eq_zero (by rw[h3,hc0])
     subst h5
     simp [Sort.putCells]
    ·exact hg2.block k hk (fun e=>hk2 (by simpa using e))
   ·have:ownB (some ⟨g,0,none⟩) c=some g:=by unfold ownB;rw[if_neg hc0];rfl
    rw[this]
    exact grownBy_sorted _
theorem compact_le (zs:List (List UInt8)):(Lib.compact zs).length≤zs.length:=by
 have h:∀ m,(Lib.compactUpTo zs.toArray m).length≤m:=fun m=>by
  induction m with
  | zero=>exact Nat.le_refl _
  | succ m ih =>
   rw[Lib.compactUpTo_succ,List.length_append]
   split
   ·simp;omega
   ·simp;omega
 have:=h zs.length
 simpa [Lib.compact] using this
theorem compactRow_any (base:Nat) (A:Option Addr) (n c:Nat) (xs:List ByteArray) (w:World) (h:Row w base 9 1 A n c (scells xs)) (hn:n≤1099511627776) :
  Calls Tryz.prog 64 #[.slice A n c] w (fun e w'=>e=.returned (.slice A (compactB xs).length c)∧Row w' base 9 1 A (compactB xs).length c (scells (compactB xs))∧w.grownBy w' (ownB A c)):=by
 obtain⟨hl,h0 | ⟨g,cur,rfl,hg,hb,h1,h2,h3,h4⟩⟩:=h.forms
 ·subst h0
  have hx:xs=[]:=List.length_eq_zero_iff.1 hl.symm
  subst hx
  refine (Tryz.slices_Compact_string_empty A c w).mono ?_
  rintro e w' ⟨rfl,rfl⟩
  exact⟨rfl,h,World.grownBy.refl _ _⟩
 ·have hl2:(xs.map L).length=n:=by rw[List.length_map,hl]
  have hH:Go.Sort.Holds encStr w g 0 (xs.map L).toArray:=holds_of_block hb (by rw[hl2,← Nat.mul_one n];exact h4)
  have hc:=Tryz.slices_Compact_string g 0 c (xs.map L) w hH (by omega) (by omega)
  rw[hl2]at hc
  refine hc.mono ?_
  have hcl:(Lib.compact (xs.map L)).length=(compactB xs).length:=by unfold compactB;rw[List.length_map]
  have hle:(compactB xs).length≤n:=by rw[← hcl,← hl2];exact compact_le _
  rintro e w' ⟨rfl,q,rfl⟩
  rw[hcl]
  obtain⟨ts,hts⟩:∃ ts,Lib.compact (xs.map L)++List.replicate (n - (compactB xs).length) []=ts:=⟨_,rfl⟩
  have htl:ts.length=n:=by rw[← hts,List.length_append,hcl,List.length_replicate];omega
  rw[hts]
  refine⟨rfl,.inl ⟨by unfold scells;rw[List.length_map,Nat.mul_one],.inr ⟨g,c,_,rfl,hg,heap_sorted (n:=q) (os:=#[]) ts.toArray hb,by omega,h2,by simp [Sort.putCells,h3],?_⟩⟩,?_⟩
  ·have h5:=take_putCells cur ts (by omega)
   rw[Nat.mul_one]
   have h6:((Sort.putCells encStr 0 ts.toArray cur).toList.take ts.length).take (compactB xs).length=(ts.map encStr).take (compactB xs).length:=by rw[h5]
   rw[List.take_take,htl,Nat.min_eq_left hle,← List.map_take]at h6
   have h7:ts.take (compactB xs).length=Lib.compact (xs.map L):=by rw[← hts,List.take_append_of_le_length (by omega),List.take_of_length_le (by omega)]
   rw[h7,enc_scells]at h6
   exact h6
  ·by_cases hc0:c=0
   ·have hg2:=grownBy_sorted (w:=w) (g:=g) (n:=q) (os:=#[]) ts.toArray
    refine⟨hg2.os,hg2.tape,hg2.output,hg2.size,fun k hk _=>?_⟩
    by_cases hk2:k=g
    ·subst hk2
     have h8:=heap_sorted (n:=q) (os:=#[]) ts.toArray hb
     have h5:cur=#[]:=Array.eq_empty_of_size_eq_zero (by rw[h3,hc0])
     subst h5
     rw[Go.Sort.grow_empty]at h8
     rw[h8,hb]
     simp [Sort.putCells]
    ·exact hg2.block k hk (fun e=>hk2 (by simpa using e))
   ·have:ownB (some ⟨g,0,none⟩) c=some g:=by unfold ownB;rw[if_neg hc0];rfl
    rw[this]
    exact grownBy_sorted (os:=#[]) _
end Go.Proofs.YthjeglnkgdpijaaGreatDoor
