/- Rows written over and grown: what an append leaves of the row it began from; several rows of bytes of which no two share a block. No condition: plain lemmas. The walks of tok.Quote, of head.text and of the document's text. Conditions: texts of at most 2^40 bytes. The walks of tok.Quote and of head.text. Conditions: texts of at most 2^40 bytes. -/
import Derived.Test.YtkempjcphpnocaaGreatDoorRowA
import Derived.Lib.AppendZerosOnto
import Derived.Test.YtkempjcphpnocaaGreatDoorZ05
import Derived.Test.YtkempjcphpnocaaGreatDoorZ16
import Derived.Test.YtkempjcphpnocaaGreatDoorShelf
import Derived.Shelf.Strings.Builder1
namespace Go.Proofs.YtkempjcphpnocaaGreatDoor
open Go.RowKit
section
variable {w w' u u':World} {base n c m:Nat} {A:Option Addr} {bs:List UInt8} {r:Option Nat}
theorem CRow.kept (h:CRow w base A n c bs) (hg:w.grownBy w' r) (hr:∀ b,ownB A c = some b → r ≠ some b):CRow w' base A n c bs:=by
  obtain ⟨h1,h2,h3⟩:=h
  refine ⟨h1,h2,?_⟩
  rcases h3 with h3 | ⟨g,hA,hB,hlt,hf,hc⟩
  · exact .inl h3
  · by_cases hc0:c = 0
    · exact .inl hc0
    · have hne:r ≠ some g:=hr g (by subst hA; unfold ownB; rw [if_neg hc0]; rfl)
      have hb:w'.heap[g]? = w.heap[g]?:=hg.block g hlt (fun e=>hne e.symm)
      have hcell:∀ j,w'.cell? ⟨g,j,none⟩ = w.cell? ⟨g,j,none⟩:=fun j=>World.cell?_of_block (w:=w) (a:=⟨g,j,none⟩) hb
      have hfr:∀ j,w'.frozen? ⟨g,j,none⟩ = w.frozen? ⟨g,j,none⟩:=fun j=>by simp [World.frozen?,hb]
      exact .inr ⟨g,hA,hB,Nat.lt_of_lt_of_le hlt hg.size,fun j hj=>⟨by rw [hcell]; exact (hf j hj).1,by rw [hfr]; exact (hf j hj).2⟩,fun j v hv=>(hcell j).trans (hc j v hv)⟩
theorem CRow.front {xs:List UInt8} (h:CRow w base A n c xs) (hm:m ≤ n):CRow w base A m c (xs.take m):=by
  obtain ⟨h1,h2,h3⟩:=h
  refine ⟨by rw [List.length_take]; omega,by omega,?_⟩
  rcases h3 with h3 | ⟨g,hA,hB,hlt,hf,hc⟩
  · exact .inl h3
  · refine .inr ⟨g,hA,hB,hlt,hf,fun j v hv=>hc j v ?_⟩
    unfold bcells at hv ⊢
    rw [List.map_take,List.getElem?_take] at hv
    split at hv
    · exact hv
    · cases hv
theorem grown_set (w:World) (g j:Nat) (v:Value):w.grownBy (w.setCell ⟨g,j,none⟩ v) (some g) :=
  ⟨rfl,rfl,rfl,by simp [World.setCell],fun k _ hne=>by
    unfold World.setCell
    simp only [Array.getElem?_modify]
    rw [if_neg (fun e=>hne (by rw [e]))]⟩
theorem CRow.set {g:Nat} (h:CRow w base (some ⟨g,0,none⟩) n c bs) {j:Nat} (hj:j < n) (x:UInt8):CRow (w.setCell ⟨g,j,none⟩ (.int .u8 x.toNat)) base (some ⟨g,0,none⟩) n c (bs.set j x):=by
  obtain ⟨h1,h2,h3⟩:=h
  refine ⟨by rw [List.length_set]; exact h1,h2,?_⟩
  rcases h3 with h3 | ⟨g',hA,hB,hlt,hf,hc⟩
  · omega
  · cases hA
    have hsome:∀ i,i < [Value.int .u8 x.toNat].length → (w.cell? ⟨g,j + i,none⟩).isSome = true:=fun i hi=>by
      have:i = 0:=by simpa using hi
      subst this
      exact (hf j (by omega)).1
    have e:w.setCell ⟨g,j,none⟩ (.int .u8 x.toNat) = w.setCells g j [Value.int .u8 x.toNat]:=rfl
    have hin:(w.setCell ⟨g,j,none⟩ (.int .u8 x.toNat)).cell? ⟨g,j,none⟩ = some (.int .u8 x.toNat):=by
      have:=World.cell?_setCells_in g [Value.int .u8 x.toNat] j w hsome 0 (by simp)
      rw [e]
      simpa using this
    have hout:∀ i,i ≠ j → (w.setCell ⟨g,j,none⟩ (.int .u8 x.toNat)).cell? ⟨g,i,none⟩ = w.cell? ⟨g,i,none⟩:=fun i hi=>by
      rw [e]
      refine World.cell?_setCells_out g [Value.int .u8 x.toNat] j w ⟨g,i,none⟩ (fun _ _=>?_)
      simp only [List.length_cons,List.length_nil]
      omega
    have hfr:∀ i,(w.setCell ⟨g,j,none⟩ (.int .u8 x.toNat)).frozen? ⟨g,i,none⟩ = w.frozen? ⟨g,i,none⟩:=fun i=>by
      rw [e]
      exact World.frozen?_setCells ..
    refine .inr ⟨g,rfl,hB,Nat.lt_of_lt_of_le hlt (grown_set w g j _).size,fun i hi=>⟨?_,?_⟩,fun i v hv=>?_⟩
    · by_cases hij:i = j
      · subst hij; rw [hin]; rfl
      · rw [hout i hij]; exact (hf i hi).1
    · rw [hfr]; exact (hf i hi).2
    · unfold bcells at hv
      rw [List.map_set] at hv
      by_cases hij:i = j
      · subst hij
        rw [List.getElem?_set_self (by rw [List.length_map]; omega)] at hv
        cases hv
        exact hin
      · rw [List.getElem?_set_ne (Ne.symm hij)] at hv
        rw [hout i hij]
        exact hc i v hv
end
structure LSt (w0:World) (base k:Nat) (A:Nat → Option Addr) (n c:Nat → Nat) (hb ho:Nat) (f:Nat → List UInt8) (u:World):Prop where
  row:∀ i,i < k → CRow u base (A i) (n i) (c i) (f i)
  cell:∀ i,i < k → u.cell? ⟨hb,ho + i,none⟩ = some (.slice (A i) (n i) (c i))
  below:Below base w0 u
  keep:∀ b,b < w0.heap.size → (∀ i,i < k → ownB (A i) (c i) ≠ some b) → u.heap[b]? = w0.heap[b]?
structure LDis (k:Nat) (A:Nat → Option Addr) (c:Nat → Nat) (hb:Nat):Prop where
  two:∀ i j b,i < k → j < k → j ≠ i → ownB (A i) (c i) = some b → ownB (A j) (c j) ≠ some b
  head:∀ i b,i < k → ownB (A i) (c i) = some b → b ≠ hb
section
variable {w0 u u':World} {base k hb ho:Nat} {A:Nat → Option Addr} {n c:Nat → Nat} {f:Nat → List UInt8}
theorem LSt.under (h:LSt w0 base k A n c hb ho f u) (hk:Below u.heap.size u u') (hz:base ≤ u.heap.size):LSt w0 base k A n c hb ho f u' :=
  ⟨fun i hi=>(h.row i hi).below hk,fun i hi=>(hk.cell (p:=⟨hb,ho + i,none⟩) (cell_lt (h.cell i hi))).trans (h.cell i hi),below_then hz h.below hk,
   fun b hb hn=>(hk.block b (Nat.lt_of_lt_of_le hb h.below.size)).trans (h.keep b hb hn)⟩
theorem LSt.alloc (h:LSt w0 base k A n c hb ho f u) (hz:base ≤ u.heap.size) (o:Obj):LSt w0 base k A n c hb ho f (u.alloc o):=h.under ((Below.refl _ _).alloc (Nat.le_refl _) _) hz
theorem LSt.turn (h:LSt w0 base k A n c hb ho f u) {i:Nat} {xs:List UInt8} {r:Option Nat} (hg:u.grownBy u' r) (hz:base ≤ u.heap.size) (hr:∀ b,r = some b → base ≤ b ∧ b ≠ hb)
    (ho':∀ j,j < k → j ≠ i → ∀ b,ownB (A j) (c j) = some b → r ≠ some b) (hw:∀ b,r = some b → b < w0.heap.size → ∃ i,i < k ∧ ownB (A i) (c i) = some b) (hx:CRow u' base (A i) (n i) (c i) xs):LSt w0 base k A n c hb ho (fun j=>if j = i then xs else f j) u' :=
  ⟨fun j hj=>by
    by_cases e:j = i
    · subst e; simpa using hx
    · simp only [if_neg e]
      exact (h.row j hj).kept hg (ho' j hj e),
   fun j hj=>by
    have hlt:=cell_lt (h.cell j hj)
    have hbl:u'.heap[hb]? = u.heap[hb]?:=hg.block hb hlt (fun e=>(hr hb e.symm).2 rfl)
    exact (World.cell?_of_block (w:=u) (a:=⟨hb,ho + j,none⟩) hbl).trans (h.cell j hj),
   h.below.grown hg hz (fun b hb=>(hr b hb).1),
   fun b hb hn=>(hg.block b (Nat.lt_of_lt_of_le hb h.below.size) (fun e=>by
     obtain ⟨i,hi,h2⟩:=hw b e.symm hb
     exact hn i hi h2)).trans (h.keep b hb hn)⟩
theorem LSt.same (h:LSt w0 base k A n c hb ho f u) {g:Nat → List UInt8} (e:∀ j,j < k → g j = f j):LSt w0 base k A n c hb ho g u :=
  ⟨fun j hj=>by rw [e j hj]; exact h.row j hj,h.cell,h.below,h.keep⟩
theorem LSt.set (h:LSt w0 base k A n c hb ho f u) (hd:LDis k A c hb) {i g j:Nat} (hi:i < k) (hA:A i = some ⟨g,0,none⟩) (hj:j < n i) (hz:base ≤ u.heap.size) (x:UInt8) :
    LSt w0 base k A n c hb ho (fun t=>if t = i then (f i).set j x else f t) (u.setCell ⟨g,j,none⟩ (.int .u8 x.toNat)):=by
  have hrow:=h.row i hi
  have hcn:c i ≠ 0:=by have:=hrow.2.1; omega
  have hown:ownB (A i) (c i) = some g:=by rw [hA]; unfold ownB; rw [if_neg hcn]; rfl
  refine h.turn (grown_set u g j _) hz (fun b e=>?_) (fun t ht hti b hb2 e=>?_) (fun b e _=>⟨i,hi,hown.trans e⟩) ?_
  · cases e
    exact ⟨(hrow.lt g hown).1,hd.head i g hi hown⟩
  · cases e
    exact hd.two i t g hi ht hti hown hb2
  · rw [hA] at hrow ⊢
    exact hrow.set hj x
theorem LSt.app (h:LSt w0 base k A n c hb ho f u) (hd:LDis k A c hb) {i j z c2 c3 m:Nat} {A2 A3:Option Addr} {xs news:List UInt8} (hi:i < k) (hz:base ≤ u.heap.size) (hx:xs.take (n i) = f i)
    (hlt:∀ t b,t < k → ownB (A t) (c t) = some b → b < z) (hbz:hb < z) (h1:CRow u base A2 (n i + j) c2 xs) (hwh:(A2 = A i ∧ c2 = c i) ∨ ∀ b,ownB A2 c2 = some b → z ≤ b) (ha:App u u' A2 c2 A3 c3) (h2:CRow u' base A2 (n i + j) c2 xs) (hzu:z ≤ u.heap.size) (hz0:w0.heap.size ≤ z) (_hm:CRow u' base A3 m c3 (xs ++ news)) :
    LSt w0 base k A n c hb ho f u' ∧ ((A3 = A i ∧ c3 = c i) ∨ ∀ b,ownB A3 c3 = some b → z ≤ b):=by
  refine ⟨?_,?_⟩
  · have hr:∀ b,ownB A2 c2 = some b → base ≤ b ∧ b ≠ hb:=fun b e=>⟨(h1.lt b e).1,by
      rcases hwh with ⟨rfl,rfl⟩ | hw
      · exact hd.head i b hi e
      · have:=hw b e; omega⟩
    have ho':∀ t,t < k → t ≠ i → ∀ b,ownB (A t) (c t) = some b → ownB A2 c2 ≠ some b:=fun t ht hti b e e2=>by
      rcases hwh with ⟨rfl,rfl⟩ | hw
      · exact hd.two i t b hi ht hti e2 e
      · have:=hw b e2; have:=hlt t b ht e; omega
    have hrow:CRow u' base (A i) (n i) (c i) (f i):=by
      rcases hwh with ⟨rfl,rfl⟩ | hw
      · have:=h2.front (m:=n i) (by omega)
        rwa [hx] at this
      · exact (h.row i hi).kept ha.grown (fun b e e2=>by have:=hw b e2; have:=hlt i b hi e; omega)
    have hw':∀ b,ownB A2 c2 = some b → b < w0.heap.size → ∃ i,i < k ∧ ownB (A i) (c i) = some b:=fun b e hb2=>by
      rcases hwh with ⟨rfl,rfl⟩ | hw
      · exact ⟨i,hi,e⟩
      · have:=hw b e; omega
    exact (h.turn ha.grown hz hr ho' hw' hrow).same (fun t _=>by by_cases e:t = i <;> simp [e])
  · rcases ha.moved with ⟨rfl,rfl⟩ | ⟨g,rfl,hg⟩
    · exact hwh
    · refine .inr fun b e=>?_
      unfold ownB at e
      split at e
      · cases e
      · simp at e
        omega
end
section
variable {w w' u u':World} {base n c c2 c3 size:Nat} {A A2 A3:Option Addr} {e:TypeId} {xs:List Value} {r:Option Nat}
theorem Row.kept (h:Row w base e size A n c xs) (hg:w.grownBy w' r) (hr:∀ b,ownB A c = some b → r ≠ some b):Row w' base e size A n c xs:=by
  by_cases hc0:c = 0
  · subst hc0
    have hn:n = 0:=by have:=h.cap.1; omega
    subst hn
    exact .inr ⟨rfl,rfl,List.eq_nil_of_length_eq_zero (by have:=h.len; omega)⟩
  · rcases h with ⟨h1,h2⟩ | h
    · refine .inl ⟨h1,?_⟩
      rcases h2 with h2 | ⟨g,cap,cur,hv,hg0,hh,rest⟩
      · exact .inl h2
      · cases hv
        have hne:r ≠ some g:=hr g (by unfold ownB; rw [if_neg hc0]; rfl)
        have hb:w'.heap[g]? = w.heap[g]?:=hg.block g (Array.getElem?_eq_some_iff.1 hh).1 (fun e=>hne e.symm)
        exact .inr ⟨g,c,cur,rfl,hg0,hb.trans hh,rest⟩
    · exact .inr h
end
section
variable {u u':World} {base base2 n n2 c c2 size lo hi b:Nat} {A A2:Option Addr} {e:TypeId} {xs:List Value} {bs:List UInt8} {cs:Array Value} {t:TypeId}
theorem Row.after (h:Row u base2 e size A2 n2 c2 xs) (hg:u.grownBy u' (ownB A c)) (hlt:∀ k,ownB A c = some k → k < base2):Row u' base2 e size A2 n2 c2 xs :=
  h.kept hg (fun b hb e=>by have:=(h.lt b hb).1; have:=hlt b e; omega)
theorem CRow.after (h:CRow u base2 A2 n2 c2 bs) (hg:u.grownBy u' (ownB A c)) (hlt:∀ k,ownB A c = some k → k < base2):CRow u' base2 A2 n2 c2 bs :=
  h.kept hg (fun b hb e=>by have:=(h.lt b hb).1; have:=hlt b e; omega)
theorem Blk.after (h:Blk u b cs t) (hg:u.grownBy u' (ownB A c)) (hne:∀ k,ownB A c = some k → k ≠ b):Blk u' b cs t :=
  (hg.block b h.lt (fun e=>hne b e.symm rfl)).trans h
end
end Go.Proofs.YtkempjcphpnocaaGreatDoor
namespace Go.Proofs.YtkempjcphpnocaaGreatDoor
open Go.RowKit
def quoteRen:Go.Shelf.Ren:=⟨fun | 167=>147 | 240=>173 | 276=>199 | n=>n,fun | 0=>0 | 3=>3 | 4=>4 | 5=>5 | 9=>9 | 20=>20 | 37=>26 | 70=>205 | 72=>207 | 75=>196 | 80=>209 | 164=>259 | n=>n,fun | n=>n⟩
theorem lays167:Go.Proofs.Lays.n167 Tryz.prog quoteRen:={
  mixed:=by kernel_rfl
  f167:=Tryz.func147.trans (congrArg some (by kernel_rfl))
  f240:=Tryz.func173.trans (congrArg some (by kernel_rfl))
  f276:=Tryz.func199.trans (congrArg some (by kernel_rfl))
  t0:=Tryz.underlying0
  a0:=Tryz.isAgg0
  z0:=Tryz.sizeOf0
  v0:=Tryz.zeroValue0
  t4:=Tryz.underlying4
  a4:=Tryz.isAgg4
  z4:=Tryz.sizeOf4
  v4:=Tryz.zeroValue4
  t5:=Tryz.underlying5
  a5:=Tryz.isAgg5
  z5:=Tryz.sizeOf5
  v5:=Tryz.zeroValue5
  t9:=Tryz.underlying9
  a9:=Tryz.isAgg9
  z9:=Tryz.sizeOf9
  v9:=Tryz.zeroValue9
  t20:=Tryz.underlying20
  a20:=Tryz.isAgg20
  z20:=Tryz.sizeOf20
  v20:=Tryz.zeroValue20
  t37:=Tryz.underlying26
  a37:=Tryz.isAgg26
  z37:=Tryz.sizeOf26
  v37:=Tryz.zeroValue26
  t70:=Tryz.underlying205
  a70:=Tryz.isAgg205
  z70:=Tryz.sizeOf205
  v70:=Tryz.zeroValue205
  t72:=Tryz.underlying207
  a72:=Tryz.isAgg207
  z72:=Tryz.sizeOf207
  v72:=Tryz.zeroValue207
  t75:=Tryz.underlying196
  a75:=Tryz.isAgg196
  z75:=Tryz.sizeOf196
  v75:=Tryz.zeroValue196
  t164:=Tryz.underlying259
  a164:=Tryz.isAgg259
  z164:=Tryz.sizeOf259
  v164:=Tryz.zeroValue259 }
theorem extra167:Builder.Extra Tryz.prog quoteRen:={
  sizeBuilder:=by kernel_rfl
  liesBuilder:=by kernel_rfl
  t5:=Tryz.underlying5
  a5:=Tryz.isAgg5
  z5:=Tryz.sizeOf5
  v5:=Tryz.zeroValue5
  infoByte:=by kernel_rfl
  cellsByte:=by kernel_rfl
  sizeByte:=by kernel_rfl
  neB5:=by decide }
theorem writeByte_any (B b:Nat) (bs:List Value) (c:Int) (w:World) (h:Lib.IsBuilder 207 5 B b bs w) (hlen:bs.length + 1 ≤ 140737488355328) (hBw:B ≤ w.heap.size) :
    Calls Tryz.prog 147 #[.pointer (some ⟨b,0,none⟩),.int .u8 c] w fun e w'=>e = .returned .nilIface ∧ (Lib.BuilderAt 207 5 B b (.pointer (some ⟨b,0,none⟩)) (bs ++ [.int .u8 c]) w' ∧ Below B w w') :=
  Any.Builder_WriteByte lays167 extra167 B b bs c w h hlen hBw
theorem textByte_any (c:UInt8) (w:World):Calls Tryz.prog 148 #[.int .u8 c.toNat] w (RetP w (.bool (T.textB c))):=by
  rcases textB_of c with ⟨h,g1,g2⟩ | ⟨h,g1,g2⟩ | ⟨h,g1,g2,g3⟩ | ⟨h,g1,g2,g3⟩
  case' inr.inr.inl=>have g4:((c.toNat:Int) != 127) = true:=by rw [bne,g3]; rfl
  case' inr.inr.inr=>have g4:((c.toNat:Int) != 127) = false:=by rw [bne,g3]; rfl
  all_goals
    rw [h]
    clear h
    go_enter Tryz.func148,Tryz.ntmps148
    go_wp2
    go_ret
    exact ⟨rfl,rfl⟩
end Go.Proofs.YtkempjcphpnocaaGreatDoor
namespace Go.Proofs.YtkempjcphpnocaaGreatDoor
open Go.RowKit
def Wrote (w:World) (n:Nat) (e:Ending) (u:World):Prop:=e = .returned .nilIface ∧ ∃ l:List UInt8,l.length ≤ n ∧ Lib.IsBuilder 207 5 w.heap.size w.heap.size (Lib.byteCells l) u ∧ Below w.heap.size w u
theorem write_more {w u:World} {n:Nat} (c:UInt8) (hn:n ≤ 4398046511104) (h:∃ l:List UInt8,l.length ≤ n ∧ Lib.IsBuilder 207 5 w.heap.size w.heap.size (Lib.byteCells l) u ∧ Below w.heap.size w u) :
    Calls Tryz.prog 147 #[.pointer (some ⟨w.heap.size,0,none⟩),.int .u8 c.toNat] u (Wrote w (n + 1)):=by
  obtain ⟨l,hl,hb,hbel⟩:=h
  refine (writeByte_any w.heap.size w.heap.size (Lib.byteCells l) c.toNat u hb (by rw [Lib.byteCells_length]; omega) hbel.size).mono ?_
  rintro e v ⟨he,hat,hb2⟩
  refine ⟨he,l ++ [c],by rw [List.length_append]; simp only [List.length_singleton]; omega,?_,hbel.trans hb2⟩
  have e2:Lib.byteCells (l ++ [c]) = Lib.byteCells l ++ [.int .u8 c.toNat]:=by simp [Lib.byteCells]
  rw [e2]
  exact .inr hat
def RetQuote (w:World) (ok:Bool) (e:Ending) (w':World):Prop:=∃ q:ByteArray,e = .returned (.tuple #[.string q,.int .i64 (if ok then 0 else 11)]) ∧ Below w.heap.size w w'
set_option maxRecDepth 100000 in
set_option maxHeartbeats 1000000 in
theorem quote_any (s:ByteArray) (w:World) (hs:s.size ≤ 1099511627776):Calls Tryz.prog 121 #[.string s] w (RetQuote w (F.text s)):=by
  have HZ:Hid ((L s).length = s.size):=(L_size s).symm
  have H0:Hid (∃ l:List UInt8,l.length ≤ 0 ∧ Lib.IsBuilder 207 5 w.heap.size w.heap.size (Lib.byteCells l) (w.alloc (.cells #[.pointer none,.slice none 0 0] 207)) ∧ Below w.heap.size w (w.alloc (.cells #[.pointer none,.slice none 0 0] 207))) :=
    Lib.hid ⟨[],Nat.le_refl _,Lib.fresh_isBuilder 207 5 w,(Below.refl w.heap.size w).alloc (Nat.le_refl _) _⟩
  go_enter Tryz.func121,Tryz.ntmps121
  go_wp2_with fail
  generalize w.alloc (.cells #[.pointer none,.slice none 0 0] 207) = w0 at *
  refine (write_more 34 (by omega) H0.out).mono ?_
  rintro e w1 ⟨rfl,h1⟩
  have H1:=Lib.hid h1
  clear h1 H0
  go_wp2
  go_loopw [5,6,10,16,20] (fun _ _ i _ _ wr=>∃ k:Nat,k ≤ s.size ∧ i = .int .i64 k ∧ ((L s).take k).all T.textB = true ∧ ∃ l:List UInt8,l.length ≤ 2 * k + 1 ∧ Lib.IsBuilder 207 5 w.heap.size w.heap.size (Lib.byteCells l) wr ∧ Below w.heap.size w wr) (fun _ _ i _ _ _=>s.size - (intOf i).toNat)
  case atStart=>exact ⟨0,Nat.zero_le _,rfl,by simp,H1.out⟩
  case round =>
    clear H1
    obtain ⟨k,hk,rfl,ha,hl⟩:=hrel
    have HAll:=Lib.hid ha
    have HL:=Lib.hid hl
    clear ha hl
    by_cases hlt:k < s.size
    · have hL:k < (L s).length:=by rw [HZ.out]; exact hlt
      have HB:=Lib.hid (textByte_any s[k])
      rcases tf (T.textB ((L s)[k]'hL)) with h | h
      · have HN:=Lib.hid (all_step T.textB (L s) k hL HAll.out h)
        have hb:T.textB s[k] = true:=h
        rw [hb] at HB
        clear h hb
        rcases tf (((s[k]'hlt).toNat:Int) == 34 || ((s[k]'hlt).toNat:Int) == 92) with hq | hq
        · have HW1:=Lib.hid (write_more 92 (by omega) HL.out)
          rcases tf (((s[k]'hlt).toNat:Int) == 34) with g1 | g1
          case' inr =>
            have g2:(((s[k]'hlt).toNat:Int) == 92) = true:=by rw [g1] at hq; exact hq
          all_goals
            clear hq
            go_wp2_with fail
            refine (HB.out _).mono ?_
            rintro e w' ⟨rfl,rfl⟩
            go_wp2_with fail
            refine HW1.out.mono ?_
            rintro e w2 ⟨rfl,h2⟩
            have HW2:=Lib.hid (write_more (s[k]'hlt) (by omega) h2)
            clear h2 HW1 HL
            go_wp2_with fail
            refine HW2.out.mono ?_
            rintro e w3 ⟨rfl,l3,z3,b3,d3⟩
            have HL3:=Lib.hid (And.intro z3 (And.intro b3 d3))
            clear z3 b3 d3 HW2
            go_wp2
            go_roundw
            case rel=>exact ⟨k + 1,by omega,by go_num,HN.out,l3,by have:=HL3.out.1; omega,HL3.out.2⟩
            case measure=>simp [intOf]; omega
        · have HW2:=Lib.hid (write_more (s[k]'hlt) (by omega) HL.out)
          have g1:(((s[k]'hlt).toNat:Int) == 34) = false:=(Bool.or_eq_false_iff.1 hq).1
          have g2:(((s[k]'hlt).toNat:Int) == 92) = false:=(Bool.or_eq_false_iff.1 hq).2
          clear hq
          go_wp2_with fail
          refine (HB.out _).mono ?_
          rintro e w' ⟨rfl,rfl⟩
          go_wp2_with fail
          refine HW2.out.mono ?_
          rintro e w3 ⟨rfl,l3,z3,b3,d3⟩
          have HL3:=Lib.hid (And.intro z3 (And.intro b3 d3))
          clear z3 b3 d3 HW2
          go_wp2
          go_roundw
          case rel=>exact ⟨k + 1,by omega,by go_num,HN.out,l3,by have:=HL3.out.1; omega,HL3.out.2⟩
          case measure=>simp [intOf]; omega
      · have HN:Hid (F.text s = false):=Lib.hid (all_no T.textB (L s) k hL h)
        have hb:T.textB s[k] = false:=h
        rw [hb] at HB
        clear h hb
        go_wp2_with fail
        refine (HB.out _).mono ?_
        rintro e w' ⟨rfl,rfl⟩
        go_wp2
        refine bodyPost_ret (v:=.tuple #[.string ⟨#[]⟩,.int .i64 11]) (by simp [results,Tryz.results121,go_sem]) rfl ?_
        obtain ⟨l,_,_,d⟩:=HL.out
        exact ⟨⟨#[]⟩,by rw [HN.out]; rfl,d⟩
    · have hks:k = s.size:=by omega
      have ha:=HAll.out
      rw [List.take_of_length_le (by rw [HZ.out]; omega)] at ha
      have HT:Hid (F.text s = true):=Lib.hid ha
      have HW:=Lib.hid (write_more 34 (by omega) HL.out)
      clear ha hks HL
      go_wp2_with fail
      refine HW.out.mono ?_
      rintro e w3 ⟨rfl,l3,z3,b3,d3⟩
      have HS:=Lib.hid (Tryz.Builder_String_any w.heap.size w.heap.size l3 w3 b3 d3.size)
      have HD:=Lib.hid d3
      clear z3 b3 d3 HW
      go_wp2_with fail
      refine HS.out.mono ?_
      rintro e w4 ⟨rfl,hb4⟩
      have HD4:=Lib.hid (HD.out.trans hb4)
      clear hb4 HD HS
      go_wp2
      refine bodyPost_ret (v:=.tuple #[.string ⟨l3.toArray⟩,.int .i64 0]) (by simp [results,Tryz.results121,go_sem]) rfl ?_
      exact ⟨_,by rw [HT.out]; rfl,HD4.out⟩
theorem text_any (s:ByteArray) (w:World) (hs:s.size ≤ 1099511627776):Calls Tryz.prog 100 #[.string s] w (RetB w (F.text s)):=by
  have HQ:=Lib.hid (quote_any s w hs)
  rcases tf (F.text s) with h | h
  all_goals
    rw [h] at HQ ⊢
    clear h
    go_enter Tryz.func100,Tryz.ntmps100
    go_wp2_with fail
    refine HQ.out.mono ?_
    rintro e w1 ⟨q,rfl,hb⟩
    have HB:=Lib.hid hb
    clear hb HQ
    go_wp2
    go_ret
    exact ⟨rfl,HB.out⟩
end Go.Proofs.YtkempjcphpnocaaGreatDoor
