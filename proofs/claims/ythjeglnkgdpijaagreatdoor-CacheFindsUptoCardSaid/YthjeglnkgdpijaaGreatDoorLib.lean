/- Words for memory: a slice that reads as a list of cells, a slice of the call's own, what an append leaves of it; small lemmas on worlds, lists and results. No condition: plain lemmas. -/
import Derived.Test.YthjeglnkgdpijaaGreatDoorRows
import Derived.WalkSpells
import Derived.WalkLawsBesides
import Derived.Lib.Hide
import Derived.Lib.Strings
import Derived.BigQuiet
import Derived.Deep.AppendLies
import Derived.Test.YthjeglnkgdpijaaGreatDoorZ32
namespace Go.Proofs.YthjeglnkgdpijaaGreatDoor
open Go.RowKit
theorem aQ {a b:Bool} (h:a=b):Ending.returned (.bool a)=.returned (.bool b):=by rw[h]
theorem lS {k:IntKind} {a b:Int} (h:a=b):Ending.returned (.int k a)=.returned (.int k b):=by rw[h]
theorem below_drewN {B:Nat} {a w:World} (h:Below B a w) (n:Nat):Below B a (w.drewN n):=⟨h.os,h.tape,h.output,h.size,h.block⟩
theorem pK {a b c:World} (h:Below a.heap.size a b) (k:Below b.heap.size b c):Below a.heap.size a c:=h.trans (k.mono h.size)
theorem aH {p:Prop} (h:p):Hid p:=Lib.hid h
theorem zA (n:Nat):n≤n:=Nat.le_refl n
theorem zF (n:Nat):0≤n:=Nat.zero_le n
theorem bD {n m k:Nat} (h:n≤m) (g:m≤k):n≤k:=Nat.le_trans h g
theorem zB (B:Nat) (w:World):Below B w w:=Below.refl B w
theorem bC {α:Type} {x y:List α}:(x++y).length=x.length+y.length:=List.length_append
theorem bI {α:Type} {i:Nat} {l:List α} (h:i < l.length):l.take (i+1)=l.take i++[l[i]]:=List.take_succ_eq_append_getElem h
theorem bJ (w:World) (o:Obj):(w.alloc o).heap.size=w.heap.size+1:=World.size_alloc w o
theorem bK {P:Program} {fn:Func} {R:Ending→World→Prop} {a:Act} {w:World} {v:Value} (h:Sem.run P (results fn a.tmps) w=Result.ok v w) (h2:a.defers=[]) (h3:R (Ending.returned v) w):bodyPost P fn R Exit.ret a w:=bodyPost_ret h h2 h3
theorem aA {B:Nat} {a b c:World} (hB:B≤b.heap.size) (h:Below B a b) (k:Below b.heap.size b c):Below B a c:=h.trans (k.mono hB)
def Rd (w:World) (A:Option Addr) (n size:Nat) (xs:List Value):Prop :=
 xs.length=n * size∧(0 < n→∃ b o,A=some ⟨b,o,none⟩∧b < w.heap.size∧∀ j u,xs[j]?=some u→w.cell? ⟨b,o+j,none⟩=some u)
theorem cell_lt {w:World} {p:Addr} {u:Value} (h:w.cell? p=some u):p.block < w.heap.size:=World.block_lt_of_cell? w p h
section
variable {w w':World} {A:Option Addr} {n size:Nat} {xs:List Value}
theorem Rd.nil (w:World) (A:Option Addr) (size:Nat):Rd w A 0 size []:=⟨by simp,fun h=>absurd h (by omega)⟩
theorem Rd.below (h:Rd w A n size xs) (hb:Below w.heap.size w w'):Rd w' A n size xs :=
 ⟨h.1,fun hn=>by
  obtain⟨b,o,rfl,hlt,hc⟩:=h.2 hn
  exact⟨b,o,rfl,Nat.lt_of_lt_of_le hlt hb.size,fun j u hu=>(hb.cell (p:=⟨b,o+j,none⟩) hlt).trans (hc j u hu)⟩⟩
theorem Rd.drewN (h:Rd w A n size xs) (k:Nat):Rd (w.drewN k) A n size xs:=h
theorem Rd.drew (h:Rd w A n size xs):Rd w.drew A n size xs:=h
theorem Rd.alloc (h:Rd w A n size xs) (o:Obj):Rd (w.alloc o) A n size xs:=h.below ((zB _ _).alloc (zA _) _)
theorem Rd.at1 {k:Nat} (h:Rd w A n 1 xs) (hk:k < n):∃ b o u,A=some ⟨b,o,none⟩∧b < w.heap.size∧xs[k]?=some u∧w.cell? ⟨b,o+k,none⟩=some u:=by
 obtain⟨b,o,e,hlt,hc⟩:=h.2 (by omega)
 have hl:k < xs.length:=by have:=h.1;omega
 exact⟨b,o,xs[k],e,hlt,List.getElem?_eq_getElem hl,hc k _ (List.getElem?_eq_getElem hl)⟩
theorem Rd.at2 {k:Nat} (h:Rd w A n 2 xs) (hk:k < n):∃ b o u v,A=some ⟨b,o,none⟩∧b < w.heap.size∧xs[k * 2]?=some u∧xs[k * 2+1]?=some v∧w.cell? ⟨b,o+k * 2,none⟩=some u∧w.cell? ⟨b,o+k * 2+1,none⟩=some v:=by
 obtain⟨b,o,e,hlt,hc⟩:=h.2 (by omega)
 have hl:k * 2 < xs.length:=by have:=h.1;omega
 have hl1:k * 2+1 < xs.length:=by have:=h.1;omega
 exact⟨b,o,xs[k * 2],xs[k * 2+1],e,hlt,List.getElem?_eq_getElem hl,List.getElem?_eq_getElem hl1,hc _ _ (List.getElem?_eq_getElem hl),by rw[Nat.add_assoc];exact hc _ _ (List.getElem?_eq_getElem hl1)⟩
theorem Rd.cells (h:Rd w A n size xs):∀ ad,A=some ad→0 < n→∀ j u,xs[j]?=some u→w.cell? (ad.add j)=some u:=by
 intro ad e hn j u hu
 obtain⟨b,o,e',hlt,hc⟩:=h.2 hn
 rw[e]at e'
 cases e'
 have:(⟨b,o,none⟩:Addr).add j=⟨b,o+j,none⟩:=by unfold Addr.add;split<;>simp_all
 rw[this];exact hc j u hu
theorem Rd.of_own {base:Nat} {e:TypeId} {c:Nat} (h:w.ownsRow base e size (.slice A n c) n xs):Rd w A n size xs:=by
 refine⟨h.1,fun hn=>?_⟩
 rcases h.2 with ⟨_,h0⟩ | ⟨g,cap,cur,hv,hb,hg,hle,hm,hs,ht⟩
 ·omega
 ·have hlt:g < w.heap.size:=(Array.getElem?_eq_some_iff.1 hg).1
  have hA:A=some ⟨g,0,none⟩:=by injection hv
  subst hA
  refine⟨g,0,rfl,hlt,fun j u hu=>?_⟩
  have:=h.cells (g:=g) rfl j u hu
  have e:(⟨g,0,none⟩:Addr).add j=⟨g,0+j,none⟩:=by unfold Addr.add;split<;>simp_all
  rwa [e]at this
theorem Rd.cap {base:Nat} {e:TypeId} {c:Nat} (h:w.ownsRow base e size (.slice A n c) n xs):n≤c∧c≤maxLen:=by
 rcases h.2 with ⟨hv,h0⟩ | ⟨g,cap,cur,hv,hb,hg,hle,hm,hs,ht⟩
 ·injection hv with _ _ hc
  subst h0;subst hc
  exact⟨zA _,zF _⟩
 ·injection hv with _ _ hc
  subst hc
  exact⟨hle,hm⟩
theorem Rd.new1 (w:World) (t:TypeId) (x:Value):Rd (w.alloc (.cells #[x] t)) (some ⟨w.heap.size,0,none⟩) 1 1 [x] :=
 ⟨rfl,fun _=>⟨w.heap.size,0,rfl,by simp,fun j u hu=>by
  match j,hu with
  | 0,hu=>simp at hu;subst hu;simp⟩⟩
theorem Rd.new2 (w:World) (t:TypeId) (x y:Value):Rd (w.alloc (.cells #[x,y] t)) (some ⟨w.heap.size,0,none⟩) 1 2 [x,y] :=
 ⟨rfl,fun _=>⟨w.heap.size,0,rfl,by simp,fun j u hu=>by
  match j,hu with
  | 0,hu=>simp at hu;subst hu;simp
  | 1,hu=>simp at hu;subst hu;simp⟩⟩
theorem Rd.newRow (w:World) (t:TypeId) (cs:Array Value) (n size:Nat) (h:cs.size=n * size):Rd (w.alloc (.cells cs t)) (some ⟨w.heap.size,0,none⟩) n size cs.toList :=
 ⟨by simpa using h,fun _=>⟨w.heap.size,0,rfl,by simp,fun j u hu=>by
  rw[Nat.zero_add,cell_of_row _ w.heap.size j cs t (0,0) (heap_alloc_new w _)]
  simpa using hu⟩⟩
end
def Row (w:World) (base:Nat) (e:TypeId) (size:Nat) (A:Option Addr) (n c:Nat) (xs:List Value):Prop :=
 w.ownsRow base e size (.slice A n c) n xs∨(n=0∧c=0∧xs=[])
section
variable {w w':World} {A:Option Addr} {n c size base:Nat} {e:TypeId} {xs:List Value}
theorem Row.none_ (w:World) (base:Nat) (e:TypeId) (size:Nat):Row w base e size none 0 0 []:=.inr ⟨rfl,rfl,rfl⟩
theorem Row.empty (w:World) (base:Nat) (e:TypeId) (size:Nat) (A:Option Addr):Row w base e size A 0 0 []:=.inr ⟨rfl,rfl,rfl⟩
theorem Row.len (h:Row w base e size A n c xs):xs.length=n * size:=by
 rcases h with h | ⟨rfl,rfl,rfl⟩
 ·exact h.1
 ·simp
theorem Row.cap (h:Row w base e size A n c xs):n≤c∧c≤maxLen:=by
 rcases h with h | ⟨rfl,rfl,rfl⟩
 ·exact Rd.cap h
 ·exact⟨zA _,zF _⟩
theorem Row.rd (h:Row w base e size A n c xs):Rd w A n size xs:=by
 rcases h with h | ⟨rfl,rfl,rfl⟩
 ·exact Rd.of_own h
 ·exact Rd.nil _ _ _
theorem Row.mono (h:Row w base e size A n c xs) {base':Nat} (hb:base'≤base):Row w base' e size A n c xs:=by
 rcases h with ⟨h1,h2⟩ | h
 ·refine .inl ⟨h1,?_⟩
  rcases h2 with h2 | ⟨g,cap,cur,hv,hg,r⟩
  ·exact .inl h2
  ·exact .inr ⟨g,cap,cur,hv,bD hb hg,r⟩
 ·exact .inr h
theorem Row.below (h:Row w base e size A n c xs) (hb:Below w.heap.size w w'):Row w' base e size A n c xs:=by
 rcases h with h | h
 ·refine .inl (h.kept (row:=none) ⟨hb.os,hb.tape,hb.output,hb.size,fun k hk _=>hb.block k hk⟩ ?_)
  cases (Value.slice A n c).ownBlock<;>simp
 ·exact .inr h
theorem Row.alloc (h:Row w base e size A n c xs) (o:Obj):Row (w.alloc o) base e size A n c xs:=h.below ((zB _ _).alloc (zA _) _)
theorem Row.drewN (h:Row w base e size A n c xs) (k:Nat):Row (w.drewN k) base e size A n c xs:=h
theorem Row.drew (h:Row w base e size A n c xs):Row w.drew base e size A n c xs:=h
end
def ownB (A:Option Addr) (c:Nat):Option Nat:=if c=0 then none else A.map (·.block)
structure App (w w':World) (A:Option Addr) (c:Nat) (A':Option Addr) (c':Nat):Prop where
 grown:w.grownBy w' (ownB A c)
 moved:(A'=A∧c'=c)∨∃ g,A'=some ⟨g,0,none⟩∧w.heap.size≤g
def Sep (A:Option Addr) (c:Nat) (E:Option Addr) (m:Nat):Prop:=0 < m→∀ k e,ownB A c=some k→E=some e→k≠e.block
section
variable {w w':World} {A A' E:Option Addr} {n c c' size base m d s:Nat} {e e':TypeId} {xs ys:List Value}
theorem Row.lt (h:Row w base e size A n c xs):∀ k,ownB A c=some k→base≤k∧k < w.heap.size:=by
 intro k hk
 unfold ownB at hk
 split at hk
 ·cases hk
 ·rename_i hc
  rcases h with h | ⟨_,h0,_⟩
  ·cases A with
   | none=>simp at hk
   | some a=>exact h.lt k (by simpa [Value.ownBlock] using hk)
  ·exact absurd h0 hc
theorem App.below (h:App w w' A c A' c') (hr:Row w base e size A n c xs) (hb:base≤w.heap.size):Below base w w' :=
 (zB _ _).grown h.grown hb (fun k hk=>(hr.lt k hk).1)
theorem App.rd (h:App w w' A c A' c') (hr:Rd w E m s ys) (hs:Sep A c E m):Rd w' E m s ys :=
 ⟨hr.1,fun hm=>by
  obtain⟨b,o,rfl,hlt,hc⟩:=hr.2 hm
  have hbl:w'.heap[b]?=w.heap[b]?:=h.grown.block b hlt (fun e=>hs hm b ⟨b,o,none⟩ e.symm rfl rfl)
  exact⟨b,o,rfl,Nat.lt_of_lt_of_le hlt h.grown.size,fun j u hu=>(World.cell?_of_block (w:=w) (a:=⟨b,o+j,none⟩) hbl).trans (hc j u hu)⟩⟩
theorem App.sep (h:App w w' A c A' c') (hr:Rd w E m s ys) (hs:Sep A c E m):Sep A' c' E m:=by
 intro hm k e hk he
 rcases h.moved with ⟨rfl,rfl⟩ | ⟨g,rfl,hg⟩
 ·exact hs hm k e hk he
 ·obtain⟨b,o,he',hlt,_⟩:=hr.2 hm
  rw[he]at he'
  cases he'
  unfold ownB at hk
  split at hk
  ·cases hk
  ·simp at hk
   show k≠b
   omega
theorem Sep.fresh {w1:World} (h:Row w base e size A n c xs) (hr:Row w1 w.heap.size e' s E m d ys):Sep A c E m:=by
 intro hm k e hk he
 have h1:=(h.lt k hk).2
 rcases hr with hr | ⟨h0,_,_⟩
 ·subst he
  have h2:=(hr.lt e.block (by simp [Value.ownBlock])).1
  omega
 ·omega
theorem Sep.none_ (A E:Option Addr) (m:Nat):Sep A 0 E m:=by
 intro _ k e hk
 simp [ownB]at hk
theorem Sep.old {B:Nat} (h:Row w B e size A n c xs) (hr:0 < m→∃ b o,E=some ⟨b,o,none⟩∧b < B):Sep A c E m:=by
 intro hm k e hk he
 obtain⟨b,o,he',hlt⟩:=hr hm
 rw[he]at he'
 cases he'
 have:=(h.lt k hk).1
 show k≠b
 omega
theorem Rd.lt (h:Rd w A n size xs):0 < n→∃ b o,A=some ⟨b,o,none⟩∧b < w.heap.size:=fun hn=>by
 obtain⟨b,o,e,hlt,_⟩:=h.2 hn
 exact⟨b,o,e,hlt⟩
end
section
variable {P:Program} (w:World)
theorem run_append_nothing (t ty e:TypeId) (i:TypeInfo) (ht:P.underlying t=some (.slice e)) (hi:P.info? e=some i)
  (A:Option Addr) (n c:Nat) (hn:n≤c) (S:Option Addr) (d:Nat):(Builtin.append_ #[t,t] ty #[.slice A n c,.slice S 0 d]).run P w=.ok (.slice A n c) w:=by
 cases A<;>cases S<;>simp [Builtin.append_,run_underlying ht,sizeOf,typeInfo,hi,Builtin.lenOf,Builtin.firstCells,loadCells,loadCellsFrom,hn,storeCells]
theorem aIY (t ty e:TypeId) (i:TypeInfo) (z:Value) (size bytes:Nat) (ht:P.underlying t=some (.slice e)) (hi:P.info? e=some i) (hz:i.zero=some z)
  (hsize:i.size=size) (hby:i.bytes=bytes) (hzs:z.cells.size=size) (hsz:0 < size)
  (base:Nat) (A:Option Addr) (n c:Nat) (xs:List Value) (hown:Row w base e size A n c xs)
  (S:Option Addr) (m d:Nat) (news:List Value) (hr:Rd w S m size news) (h1:∀ u∈news,u.oneCell'=true)
  (h63:n+m≤maxLen) (hbytes:(n+m) * bytes≤140737488355328) (hbase:base≤w.heap.size) :
  ∃ A' c' w',(Builtin.append_ #[t,t] ty #[.slice A n c,.slice S m d]).run P w=.ok (.slice A' (n+m) c') w'∧Row w' base e size A' (n+m) c' (xs++news)∧App w w' A c A' c':=by
 rcases Nat.eq_zero_or_pos m with h0 | h0
 ·subst h0
  have hn:news=[]:=List.eq_nil_of_length_eq_zero (by simpa using hr.1)
  subst hn
  exact⟨A,c,w,run_append_nothing w t ty e i ht hi A n c hown.cap.1 S d,by simpa using hown,⟨World.grownBy.refl _ _,.inl ⟨rfl,rfl⟩⟩⟩
 ·obtain⟨b,o,rfl,hlt,hc⟩:=hr.2 h0
  have hnews:∀ j u,news[j]?=some u→w.cell? ((⟨b,o,none⟩:Addr).add j)=some u:=hr.cells _ rfl h0
  have fin:∀ v' w',w'.ownsRow base e size v' (n+m) (xs++news)→w.grownBy w' (ownB A c)→(v'=.slice A (n+m) c∨∃ g d,v'=.slice (some ⟨g,0,none⟩) (n+m) d∧w.heap.size≤g) →
    ∃ A' c',v'=.slice A' (n+m) c'∧Row w' base e size A' (n+m) c' (xs++news)∧App w w' A c A' c':=by
   intro v' w' ho hg hv
   rcases hv with rfl | ⟨g,d,rfl,hlt⟩
   ·exact⟨_,_,rfl,.inl ho,⟨hg,.inl ⟨rfl,rfl⟩⟩⟩
   ·exact⟨_,_,rfl,.inl ho,⟨hg,.inr ⟨g,rfl,hlt⟩⟩⟩
  have moved:∀ (v v':Value) (w':World) (nn cc:Nat),w'.ownsRow base e size v' (nn+m) (xs++news)→(v'.ownBlock=some w.heap.size)→∃ g d,v'=.slice (some ⟨g,0,none⟩) (nn+m) d∧w.heap.size≤g:=by
   intro v v' w' nn cc ho hb
   obtain⟨g,cap,hv,_,_⟩:=ho.form (by omega)
   subst hv
   simp [Value.ownBlock]at hb
   exact⟨g,cap,rfl,by omega⟩
  rcases hown with hown | ⟨rfl,rfl,rfl⟩
  ·rcases hown.2 with ⟨hv,h00⟩ | ⟨g0,cap0,cur0,hv,hb0,hg0,hle0,hm0,hs0,ht0⟩
   ·injection hv with hA hn hc0
    subst hA;subst hn;subst hc0
    obtain⟨v',w',hrun,h2,h3,_,h5⟩:=run_append_own_at (P:=P) w base t ty e i z size bytes ht hi hz hsize hby hzs hsz (.slice none 0 0) 0 xs hown ⟨b,o,none⟩ m d news hr.1 hnews h1 h63 hbytes hbase
    have h5':v'.ownBlock=some w.heap.size:=by
     rcases h5 with h5 | h5
     ·obtain⟨g,cap,hv,_,_⟩:=h2.form (by omega)
      subst hv
      simp [Value.ownBlock]at h5
     ·exact h5
    obtain⟨A',c',rfl,h6,h7⟩:=fin v' w' h2 (by simpa [ownB,Value.ownBlock] using h3) (.inr (moved v' v' w' 0 0 h2 h5'))
    exact⟨A',c',w',hrun,h6,h7⟩
   ·injection hv with hA hn hc0
    subst hA;subst hc0
    by_cases hroom:n+m≤c
    ·have hfit:n * i.size+news.length≤cur0.size:=by
      rw[hsize,hr.1,hs0,← Nat.add_mul];exact Nat.mul_le_mul_right _ hroom
     have hrun:=run_append_room (P:=P) w t ty e i ht hi g0 n c cur0 hg0 ⟨b,o,none⟩ m d news (by rw[hsize];exact hr.1) hnews h1 hroom hfit
     obtain⟨v',w',hrun',h2,h3,_,h5⟩:=run_append_own_at (P:=P) w base t ty e i z size bytes ht hi hz hsize hby hzs hsz (.slice (some ⟨g0,0,none⟩) n c) n xs hown ⟨b,o,none⟩ m d news hr.1 hnews h1 h63 hbytes hbase
     rw[hrun]at hrun'
     injection hrun' with hv' hw'
     subst hv';subst hw'
     have hcpos:c≠0:=by omega
     obtain⟨A',c',hv,h6,h7⟩:=fin _ _ h2 (by simpa [ownB,Value.ownBlock,hcpos] using h3) (.inl rfl)
     rw[hv]at hrun
     exact⟨A',c',_,hrun,h6,h7⟩
    ·obtain⟨v',w',hrun,h2,h3⟩:=run_append_arg_grows (P:=P) w t ty e i z size bytes ht hi hz hsize hby hzs hsz ⟨g0,0,none⟩ n c xs hown.1 (hown.cells (g:=g0) rfl) ⟨b,o,none⟩ m d news hr.1 hnews (by omega) h63 hbytes
     obtain⟨g,cap,hv,hb,hh⟩:=h2.form (by omega)
     have ho:w'.ownsRow base e size v' (n+m) (xs++news):=by
      refine⟨h2.1,?_⟩
      rcases h2.2 with h | ⟨g,cap,cur,hv,hg,r⟩
      ·exact .inl h
      ·exact .inr ⟨g,cap,cur,hv,bD hbase hg,r⟩
     subst hv
     obtain⟨A',c',hv,h6,h7⟩:=fin _ w' ho ⟨h3.os,h3.tape,h3.output,h3.size,fun k hk _=>h3.block k hk (by simp)⟩ (.inr ⟨g,cap,rfl,hb⟩)
     rw[hv]at hrun
     exact⟨A',c',w',hrun,h6,h7⟩
  ·cases A with
   | none =>
    obtain⟨v',w',hrun,h2,h3,_,h5⟩:=run_append_own_at (P:=P) w base t ty e i z size bytes ht hi hz hsize hby hzs hsz (.slice none 0 0) 0 [] (World.ownsRow_nil w base e size) ⟨b,o,none⟩ m d news hr.1 hnews h1 h63 hbytes hbase
    have h5':v'.ownBlock=some w.heap.size:=by
     rcases h5 with h5 | h5
     ·obtain⟨g,cap,hv,_,_⟩:=h2.form (by omega)
      subst hv
      simp [Value.ownBlock]at h5
     ·exact h5
    obtain⟨A',c',rfl,h6,h7⟩:=fin v' w' h2 (by simpa [ownB,Value.ownBlock] using h3) (.inr (moved v' v' w' 0 0 h2 h5'))
    exact⟨A',c',w',hrun,h6,h7⟩
   | some ad =>
    obtain⟨v',w',hrun,h2,h3⟩:=run_append_arg_grows (P:=P) w t ty e i z size bytes ht hi hz hsize hby hzs hsz ad 0 0 [] (by simp) (by simp) ⟨b,o,none⟩ m d news hr.1 hnews (by omega) h63 hbytes
    obtain⟨g,cap,hv,hb,hh⟩:=h2.form (by omega)
    have ho:w'.ownsRow base e size v' (0+m) ([]++news):=by
     refine⟨h2.1,?_⟩
     rcases h2.2 with h | ⟨g,cap,cur,hv,hg,r⟩
     ·exact .inl h
     ·exact .inr ⟨g,cap,cur,hv,bD hbase hg,r⟩
    subst hv
    obtain⟨A',c',hv,h6,h7⟩:=fin _ w' ho ⟨h3.os,h3.tape,h3.output,h3.size,fun k hk _=>h3.block k hk (by simp)⟩ (.inr ⟨g,cap,rfl,hb⟩)
    rw[hv]at hrun
    exact⟨A',c',w',hrun,h6,h7⟩
theorem pW {o:Oper} {a:Act} {K:Act→World→Prop} {Q:Exit→Act→World→Prop} (s x:Operand) (t:TypeId)
  (ho:o.op=.call { callee:=.builtin .append,args:=#[s,x],argTypes:=#[t,t] })
  (e:TypeId) (i:TypeInfo) (z:Value) (size bytes:Nat) (ht:P.underlying t=some (.slice e)) (hi:P.info? e=some i) (hz:i.zero=some z)
  (hsize:i.size=size) (hby:i.bytes=bytes) (hzs:z.cells.size=size) (hsz:0 < size)
  (base:Nat) (A:Option Addr) (n c:Nat) (xs:List Value) (hs:a.eval s=.slice A n c) (hown:Row w base e size A n c xs)
  (S:Option Addr) (m d:Nat) (news:List Value) (hx:a.eval x=.slice S m d) (hr:Rd w S m size news) (h1:∀ u∈news,u.oneCell'=true)
  (h63:n+m≤maxLen) (hbytes:(n+m) * bytes≤140737488355328) (hbase:base≤w.heap.size)
  (h:∀ A' c' w',Row w' base e size A' (n+m) c' (xs++news)→App w w' A c A' c'→K (a.put o.dst (.slice A' (n+m) c')) w'):o.wp P a w K Q:=by
 obtain⟨A',c',w',hrun,h2,h3⟩:=aIY (P:=P) w t o.type e i z size bytes ht hi hz hsize hby hzs hsz base A n c xs hown S m d news hr h1 h63 hbytes hbase
 unfold Oper.wp execOp
 simp only[ho,resolve,invoke,builtin,Sem.run_bind,Sem.run_pure,Result.andThen_ok,List.map_toArray,List.map_cons,List.map_nil,hs,hx,hrun]
 exact h A' c' w' h2 h3
end
def aB (l:List UInt8):List Value:=l.map fun b=>.int .u8 b.toNat
def aF (l:List ByteArray):List Value:=l.map .string
def aJ:List FD→List Value
 | []=>[]
 | f::l=>.string f.1::.string f.2::aJ l
theorem jP:∀ l:List FD,(aJ l).length=l.length * 2
 | []=>rfl
 | f::l=>by simp only[aJ,List.length_cons,jP l];omega
theorem nJ:∀ l m:List FD,aJ (l++m)=aJ l++aJ m
 | [],_=>rfl
 | f::l,m=>by simp [aJ,nJ l m]
theorem nI:∀ (l:List FD) (k:Nat) (h:k < l.length),(aJ l)[k * 2]?=some (.string (l[k].1))∧(aJ l)[k * 2+1]?=some (.string (l[k].2))
 | f::l,0,_=>by simp [aJ]
 | f::l,k+1,h=>by
  have:=nI l k (by simpa using h)
  rw[show (k+1) * 2=k * 2+1+1 from by omega]
  simpa [aJ] using this
theorem yC:∀ (l:List FD),∀ u∈aJ l,u.oneCell'=true
 | [],u,h=>by simp [aJ]at h
 | f::l,u,h=>by
  simp only[aJ,List.mem_cons]at h
  rcases h with rfl | rfl | h
  ·rfl
  ·rfl
  ·exact yC l u h
theorem aGI (l:List ByteArray):∀ u∈aF l,u.oneCell'=true:=by
 intro u h
 simp only[aF,List.mem_map]at h
 obtain⟨x,_,rfl⟩:=h
 rfl
theorem lF (l:List UInt8):∀ u∈aB l,u.oneCell'=true:=by
 intro u h
 simp only[aB,List.mem_map]at h
 obtain⟨x,_,rfl⟩:=h
 rfl
theorem yV (l m:List ByteArray):aF (l++m)=aF l++aF m:=List.map_append
theorem fD (l m:List UInt8):aB (l++m)=aB l++aB m:=List.map_append
theorem gG (l:List UInt8):(aB l).length=l.length:=List.length_map _
theorem Rd.field {w:World} {A:Option Addr} {n k:Nat} {l:List FD} (h:Rd w A n 2 (aJ l)) (hk:k < n) (hl:l.length=n) :
  ∃ b o,A=some ⟨b,o,none⟩∧b < w.heap.size∧w.cell? ⟨b,o+k * 2,none⟩=some (.string (l[k]'(by omega)).1)∧w.cell? ⟨b,o+k * 2+1,none⟩=some (.string (l[k]'(by omega)).2):=by
 obtain⟨b,o,u,v,e,hlt,hu,hv,hc,hd⟩:=h.at2 hk
 obtain⟨e1,e2⟩:=nI l k (by omega)
 rw[e1]at hu;rw[e2]at hv
 injection hu with hu;injection hv with hv
 subst hu;subst hv
 exact⟨b,o,e,hlt,hc,hd⟩
theorem Rd.str {w:World} {A:Option Addr} {n k:Nat} {l:List ByteArray} (h:Rd w A n 1 (aF l)) (hk:k < n) (hl:l.length=n) :
  ∃ b o,A=some ⟨b,o,none⟩∧b < w.heap.size∧w.cell? ⟨b,o+k,none⟩=some (.string (l[k]'(by omega))):=by
 obtain⟨b,o,u,e,hlt,hu,hc⟩:=h.at1 hk
 have:(aF l)[k]?=some (.string (l[k]'(by omega))):=by simp [aF,List.getElem?_eq_getElem (show k < l.length by omega)]
 rw[this]at hu
 injection hu with hu;subst hu
 exact⟨b,o,e,hlt,hc⟩
theorem Rd.byte {w:World} {A:Option Addr} {n k:Nat} {l:List UInt8} (h:Rd w A n 1 (aB l)) (hk:k < n) (hl:l.length=n) :
  ∃ b o,A=some ⟨b,o,none⟩∧b < w.heap.size∧w.cell? ⟨b,o+k,none⟩=some (.int .u8 (l[k]'(by omega)).toNat):=by
 obtain⟨b,o,u,e,hlt,hu,hc⟩:=h.at1 hk
 have:(aB l)[k]?=some (.int .u8 (l[k]'(by omega)).toNat):=by simp [aB,List.getElem?_eq_getElem (show k < l.length by omega)]
 rw[this]at hu
 injection hu with hu;subst hu
 exact⟨b,o,e,hlt,hc⟩
def eP (w:World) (E:TypeId) (size n:Nat) (xs:List Value) (e:Ending) (w':World):Prop :=
 ∃ A c,e=.returned (.slice A n c)∧Row w' w.heap.size E size A n c xs∧Below w.heap.size w w'
def qP (w:World) (b:Bool) (e:Ending) (w':World):Prop:=e=.returned (.bool b)∧Below w.heap.size w w'
def aEM (w:World) (s:ByteArray) (e:Ending) (w':World):Prop:=e=.returned (.string s)∧Below w.heap.size w w'
theorem Tryz.infoF:(Tryz.prog.info? 60).map (fun i=>(i.zero,i.size,i.bytes))=some (some (.agg #[.string ⟨#[]⟩,.string ⟨#[]⟩]),2,32):=by kernel_rfl
theorem Tryz.infoS:(Tryz.prog.info? 9).map (fun i=>(i.zero,i.size,i.bytes))=some (some (.string ⟨#[]⟩),1,16):=by kernel_rfl
theorem Tryz.infoB:(Tryz.prog.info? 5).map (fun i=>(i.zero,i.size,i.bytes))=some (some (.int .u8 0),1,1):=by kernel_rfl
theorem toList_inj {a b:ByteArray}:(a.toList=b.toList)↔(a=b):=by
 rw[ByteArray.toList_eq,ByteArray.toList_eq]
 constructor
 ·intro h;cases a;cases b;congr 1;exact Array.toList_inj.1 h
 ·rintro rfl;rfl
theorem bM (a b:ByteArray):(a.toList==b.toList)=decide (a=b):=by
 rw[Bool.eq_iff_iff];simp [toList_inj]
theorem aNL {a b:ByteArray} (h:a.data.toList=b.data.toList):a=b:=by
 cases a;cases b;congr 1;exact Array.toList_inj.1 h
theorem aB9:Tryz.prog.underlying 60=some (TypeDesc.struct (Tryz.prog.fieldsOf 60)):=by kernel_rfl
theorem aKB:Tryz.prog.stoodInHeld 60=false:=by kernel_rfl
theorem neqF (f g:FD) (w:World):(binOp .neq 60 (.agg #[.string f.1,.string f.2]) (.agg #[.string g.1,.string g.2])).run Tryz.prog w=.ok (.bool (decide (f≠g))) w:=by
 rw[run_neq_struct,run_equalIn_agg (ht:=aB9) (hp:=aKB)]
 obtain⟨a,b⟩:=f
 obtain⟨c,d⟩:=g
 simp [go_sem,toList_inj]
 by_cases h1:a=c<;>by_cases h2:b=d<;>simp [h1,h2]
theorem qC {α:Type} {xs ys:List α} {k:Nat} (h1:k < xs.length) (h2:k < ys.length) (h:xs.take k=ys.take k) (he:xs[k]=ys[k]):xs.take (k+1)=ys.take (k+1):=by
 rw[bI h1,bI h2,h,he]
theorem tf (b:Bool):b=true∨b=false:=by cases b<;>simp
theorem L_B (l:List UInt8):L (B l)=l:=rfl
theorem B_L (s:ByteArray):B (L s)=s:=rfl
theorem L_inj {a b:ByteArray} (h:L a=L b):a=b:=aNL h
theorem B_inj {a b:List UInt8} (h:B a=B b):a=b:=by have:=congrArg L h;exact this
theorem aS (s:ByteArray):s.size=(L s).length:=Lib.size_eq s
theorem iZ (l:List UInt8):(B l).size=l.length:=by rw[aS,L_B]
theorem vU (s:ByteArray) (a b:Nat):L (s.extract a b)=((L s).drop a).take (b - a):=Lib.extract_data s a b
theorem dG (a b:ByteArray):L (a++b)=L a++L b:=by simp [L,ByteArray.data_append]
theorem L_at (s:ByteArray) (k:Nat) (h:k < s.size):s[k]=(L s)[k]'(by rw[← aS];exact h):=rfl
theorem fQ (s:ByteArray):s.toList=L s:=ByteArray.toList_eq s
def vV (w:World) (g:Nat) (l:List UInt8) (m:Nat):Prop :=
 ∃ cur:Array Value,w.heap[g]?=some (.cells cur 5 (m,m+1))∧cur.size=m∧l.length≤m∧cur.toList.take l.length=aB l
section
variable {w w':World} {g m:Nat} {l:List UInt8}
theorem vV.cell (h:vV w g l m) {k:Nat} (hk:k < l.length):w.cell? ⟨g,k,none⟩=some (.int .u8 (l[k]'hk).toNat):=by
 obtain⟨cur,hh,hs,hl,ht⟩:=h
 rw[cell_of_row w g k cur _ _ hh]
 have:(cur.toList.take l.length)[k]?=cur[k]?:=by rw[List.getElem?_take,if_pos hk];simp
 rw[← this,ht]
 simp [aB,hk]
theorem vV.free (h:vV w g l m) {k:Nat} (_hk:k < l.length):w.frozen? ⟨g,k,none⟩=false:=by
 obtain⟨cur,hh,hs,hl,ht⟩:=h
 simp [World.frozen?,hh]
 omega
theorem vV.lt (h:vV w g l m):g < w.heap.size:=by
 obtain⟨cur,hh,hs,hl,ht⟩:=h
 exact (Array.getElem?_eq_some_iff.1 hh).1
theorem vV.set (h:vV w g l m) {k:Nat} (_hk:k < l.length) (x:UInt8):vV (w.setCell ⟨g,k,none⟩ (.int .u8 x.toNat)) g (l.set k x) m:=by
 obtain⟨cur,hh,hs,hl,ht⟩:=h
 refine⟨cur.setIfInBounds k (.int .u8 x.toNat),by simp [World.setCell,Array.getElem?_modify,hh],by simpa using hs,by simpa using hl,?_⟩
 rw[List.length_set,Array.toList_setIfInBounds,List.take_set,ht]
 simp [aB,List.map_set]
theorem vV.below (h:vV w g l m) (hb:Below w.heap.size w w'):vV w' g l m:=by
 obtain⟨cur,hh,r⟩:=h
 exact⟨cur,(hb.block g (Array.getElem?_eq_some_iff.1 hh).1).trans hh,r⟩
theorem vV.drewN (h:vV w g l m) (k:Nat):vV (w.drewN k) g l m:=h
theorem vV.rd (h:vV w g l m):Rd w (some ⟨g,0,none⟩) l.length 1 (aB l) :=
 ⟨by simp [aB],fun _=>⟨g,0,rfl,h.lt,fun j u hu=>by
  have hj:j < l.length:=by
   have:=(List.getElem?_eq_some_iff.1 hu).1
   simpa [aB] using this
  rw[Nat.zero_add,h.cell hj]
  simp [aB,hj]at hu
  rw[hu]⟩⟩
theorem vV.made (w:World) (s:ByteArray) (c:Nat) (_hc:s.size≤c) :
  vV (w.drew.alloc (.cells (bytesRow s c) 5 ((bytesRow s c).size,(bytesRow s c).size+1))) w.heap.size (L s) (bytesRow s c).size:=by
 refine⟨bytesRow s c,heap_alloc_new w.drew _,rfl,?_,?_⟩
 ·rw[← aS]
  have:s.data.size=s.size:=rfl
  simp [bytesRow,this]
 ·simp [bytesRow,aB,L]
end
theorem aQD (w:World) (s:ByteArray):∃ c m W,(convert 9 39 (.string s)).run Tryz.prog w=.ok (.slice (some ⟨w.heap.size,0,none⟩) s.size c) W∧s.size≤c∧vV W w.heap.size (L s) m∧Below w.heap.size w W :=
 ⟨_,_,_,run_bytes_of_string (P:=Tryz.prog) w 9 39 5 s Tryz.underlying9 Tryz.underlying39 Tryz.underlying5,grownCap_ge _ _ _ _,vV.made w s _ (grownCap_ge _ _ _ _),
  ((zB w.heap.size w).drew).alloc (zA _) _⟩
theorem pF {w:World} {A:Option Addr} {n:Nat} {l:List UInt8} (h:Rd w A n 1 (aB l)) (c:Nat) :
  (convert 39 9 (.slice A n c)).run Tryz.prog w=.ok (.string (B l)) w:=by
 have hl:l.length=n:=by have:=h.1;simpa [aB] using this
 rcases Nat.eq_zero_or_pos n with h0 | h0
 ·subst h0
  have:l=[]:=List.eq_nil_of_length_eq_zero hl
  subst this
  cases A with
  | none=>exact run_convert_bytes_nil w 39 5 Tryz.underlying39 Tryz.underlying5 0 c _ Tryz.underlying9
  | some a=>exact run_convert_bytes_back w 39 9 5 a c [] Tryz.underlying39 Tryz.underlying5 Tryz.underlying9 (fun j hj=>absurd hj (by simp))
 ·obtain⟨b,o,rfl,_,_⟩:=h.2 h0
  have hc:=h.cells _ rfl h0
  subst hl
  exact run_convert_bytes_back w 39 9 5 ⟨b,o,none⟩ c l Tryz.underlying39 Tryz.underlying5 Tryz.underlying9 (fun j hj=>hc j _ (by simp [aB,hj]))
section
variable (w:World) {ops:Array Oper} {rest:List Oper} {o:Oper} {a:Act} {K:Act→World→Prop} {Q:Exit→Act→World→Prop}
theorem wpF (s x:Operand) (ho:o.op=.call { callee:=.builtin .append,args:=#[s,x],argTypes:=#[27,27] })
  (base:Nat) (A:Option Addr) (n c:Nat) (xs:List FD) (hs:a.eval s=.slice A n c) (hown:Row w base 60 2 A n c (aJ xs))
  (S:Option Addr) (m d:Nat) (news:List FD) (hx:a.eval x=.slice S m d) (hr:Rd w S m 2 (aJ news)) (h63:n+m≤4398046511104) (hbase:base≤w.heap.size)
  (h:∀ A' c' w',Row w' base 60 2 A' (n+m) c' (aJ (xs++news))→App w w' A c A' c'→K (a.put o.dst (.slice A' (n+m) c')) w'):o.wp Tryz.prog a w K Q:=by
 obtain⟨i0,hi0,hz0,hz1,hz2⟩:=info_parts Tryz.infoF
 exact pW w s x _ ho _ i0 _ 2 32 Tryz.underlying27 hi0 hz0 hz1 hz2 rfl (by omega) base A n c _ hs hown S m d _ hx hr (yC news) (by simp only[maxLen];omega) (by omega) hbase (by simpa only[nJ] using h)
theorem wpS (s x:Operand) (ho:o.op=.call { callee:=.builtin .append,args:=#[s,x],argTypes:=#[55,55] })
  (base:Nat) (A:Option Addr) (n c:Nat) (xs:List ByteArray) (hs:a.eval s=.slice A n c) (hown:Row w base 9 1 A n c (aF xs))
  (S:Option Addr) (m d:Nat) (news:List ByteArray) (hx:a.eval x=.slice S m d) (hr:Rd w S m 1 (aF news)) (h63:n+m≤4398046511104) (hbase:base≤w.heap.size)
  (h:∀ A' c' w',Row w' base 9 1 A' (n+m) c' (aF (xs++news))→App w w' A c A' c'→K (a.put o.dst (.slice A' (n+m) c')) w'):o.wp Tryz.prog a w K Q:=by
 obtain⟨i0,hi0,hz0,hz1,hz2⟩:=info_parts Tryz.infoS
 exact pW w s x _ ho _ i0 _ 1 16 Tryz.underlying55 hi0 hz0 hz1 hz2 rfl (by omega) base A n c _ hs hown S m d _ hx hr (aGI news) (by simp only[maxLen];omega) (by omega) hbase (by simpa only[yV] using h)
theorem wpB (s x:Operand) (ho:o.op=.call { callee:=.builtin .append,args:=#[s,x],argTypes:=#[39,39] })
  (base:Nat) (A:Option Addr) (n c:Nat) (xs:List UInt8) (hs:a.eval s=.slice A n c) (hown:Row w base 5 1 A n c (aB xs))
  (S:Option Addr) (m d:Nat) (news:List UInt8) (hx:a.eval x=.slice S m d) (hr:Rd w S m 1 (aB news)) (h63:n+m≤4398046511104) (hbase:base≤w.heap.size)
  (h:∀ A' c' w',Row w' base 5 1 A' (n+m) c' (aB (xs++news))→App w w' A c A' c'→K (a.put o.dst (.slice A' (n+m) c')) w'):o.wp Tryz.prog a w K Q:=by
 obtain⟨i0,hi0,hz0,hz1,hz2⟩:=info_parts Tryz.infoB
 exact pW w s x _ ho _ i0 _ 1 1 Tryz.underlying39 hi0 hz0 hz1 hz2 rfl (by omega) base A n c _ hs hown S m d _ hx hr (lF news) (by simp only[maxLen];omega) (by omega) hbase (by simpa only[fD] using h)
theorem appF (hgd:o.guard=none) (s x:Operand) (ho:o.op=.call { callee:=.builtin .append,args:=#[s,x],argTypes:=#[27,27] })
  (base:Nat) (A:Option Addr) (n c:Nat) (xs:List FD) (hs:a.eval s=.slice A n c) (hown:Row w base 60 2 A n c (aJ xs))
  (S:Option Addr) (m d:Nat) (news:List FD) (hx:a.eval x=.slice S m d) (hr:Rd w S m 2 (aJ news)) (h63:n+m≤4398046511104) (hbase:base≤w.heap.size)
  (h:∀ A' c' w',Row w' base 60 2 A' (n+m) c' (aJ (xs++news))→App w w' A c A' c'→wpList Tryz.prog ops Q rest (a.put o.dst (.slice A' (n+m) c')) w'):wpList Tryz.prog ops Q (o::rest) a w :=
 wpList_plain hgd fun _ hK=>wpF w s x ho base A n c xs hs hown S m d news hx hr h63 hbase fun A' c' w' h2 h3=>hK _ _ (h A' c' w' h2 h3)
theorem aLK (hgd:o.guard=none) (s x:Operand) (ho:o.op=.call { callee:=.builtin .append,args:=#[s,x],argTypes:=#[55,55] })
  (base:Nat) (A:Option Addr) (n c:Nat) (xs:List ByteArray) (hs:a.eval s=.slice A n c) (hown:Row w base 9 1 A n c (aF xs))
  (S:Option Addr) (m d:Nat) (news:List ByteArray) (hx:a.eval x=.slice S m d) (hr:Rd w S m 1 (aF news)) (h63:n+m≤4398046511104) (hbase:base≤w.heap.size)
  (h:∀ A' c' w',Row w' base 9 1 A' (n+m) c' (aF (xs++news))→App w w' A c A' c'→wpList Tryz.prog ops Q rest (a.put o.dst (.slice A' (n+m) c')) w'):wpList Tryz.prog ops Q (o::rest) a w :=
 wpList_plain hgd fun _ hK=>wpS w s x ho base A n c xs hs hown S m d news hx hr h63 hbase fun A' c' w' h2 h3=>hK _ _ (h A' c' w' h2 h3)
theorem aQ0 (hgd:o.guard=none) (s x:Operand) (ho:o.op=.call { callee:=.builtin .append,args:=#[s,x],argTypes:=#[39,39] })
  (base:Nat) (A:Option Addr) (n c:Nat) (xs:List UInt8) (hs:a.eval s=.slice A n c) (hown:Row w base 5 1 A n c (aB xs))
  (S:Option Addr) (m d:Nat) (news:List UInt8) (hx:a.eval x=.slice S m d) (hr:Rd w S m 1 (aB news)) (h63:n+m≤4398046511104) (hbase:base≤w.heap.size)
  (h:∀ A' c' w',Row w' base 5 1 A' (n+m) c' (aB (xs++news))→App w w' A c A' c'→wpList Tryz.prog ops Q rest (a.put o.dst (.slice A' (n+m) c')) w'):wpList Tryz.prog ops Q (o::rest) a w :=
 wpList_plain hgd fun _ hK=>wpB w s x ho base A n c xs hs hown S m d news hx hr h63 hbase fun A' c' w' h2 h3=>hK _ _ (h A' c' w' h2 h3)
end
theorem newF (w:World) (f:FD):Rd (w.alloc (.cells #[.string f.1,.string f.2] 60)) (some ⟨w.heap.size,0,none⟩) 1 2 (aJ [f]):=Rd.new2 w _ _ _
theorem aMJ (w:World) (s:ByteArray):Rd (w.alloc (.cells #[.string s] 9)) (some ⟨w.heap.size,0,none⟩) 1 1 (aF [s]):=Rd.new1 w _ _
theorem newB (w:World) (x:UInt8):Rd (w.alloc (.cells #[.int .u8 x.toNat] 5)) (some ⟨w.heap.size,0,none⟩) 1 1 (aB [x]):=Rd.new1 w _ _
theorem aPX {w w1:World} {cs:Array Value} {t:TypeId} (hb:Below (w.alloc (.cells cs t)).heap.size (w.alloc (.cells cs t)) w1) (i:Nat) {v:Value} (h:cs[i]?=some v):w1.cell? ⟨w.heap.size,i,none⟩=some v:=by
 rw[hb.cell (p:=⟨w.heap.size,i,none⟩) (by simp),cell_of_row _ w.heap.size i cs t (0,0) (heap_alloc_new w _)]
 exact h
theorem aPD {w w1:World} {o:Obj} (hb:Below (w.alloc o).heap.size (w.alloc o) w1):w.heap.size < w1.heap.size:=by
 have:=hb.size
 simp at this
 omega
theorem nR {B:Nat} {a w w1:World} {o:Obj} (h:Below B a w) (hB:B≤w.heap.size) (hb:Below (w.alloc o).heap.size (w.alloc o) w1):Below B a w1 :=
 (h.alloc hB o).trans (hb.mono (by simp;omega))
theorem Row.new {w w1:World} {base:Nat} {e:TypeId} {size:Nat} {A:Option Addr} {n c:Nat} {xs:List Value} {o:Obj} (h:Row w base e size A n c xs) (hb:Below (w.alloc o).heap.size (w.alloc o) w1):Row w1 base e size A n c xs:=(h.alloc o).below hb
theorem Rd.new {w w1:World} {A:Option Addr} {n size:Nat} {xs:List Value} {o:Obj} (h:Rd w A n size xs) (hb:Below (w.alloc o).heap.size (w.alloc o) w1):Rd w1 A n size xs:=(h.alloc o).below hb
end Go.Proofs.YthjeglnkgdpijaaGreatDoor
