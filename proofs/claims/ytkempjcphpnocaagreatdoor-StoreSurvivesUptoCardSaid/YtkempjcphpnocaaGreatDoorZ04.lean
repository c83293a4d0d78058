/- The walk of the decoder's readTail. The walks of the decoder's step and of chunk.Decode. The one body that the laws of chunk decode first; what a body's reading answers is within bounds. The walks of the document's hex and size. The walk of the document's size line. The walks of the document's tail and Decode of chunked bodies. A list of pieces of bytes, each of its own; the walk of use.Cut: some pieces that are the whole, one behind the other. Conditions: at most 2^40 bytes and lengths. A whole message, as plain functions on its bytes; the walks of slices.Clone and inbox.fill. Conditions: a row of at most 2^28 bytes; the library's two tables of UTF-8; internal/bytealg.MaxLen; strconv's two error variables. The walk of inbox.Request (printed by gen/msgq.py). Conditions: a row of at most 2^28 bytes; the library's two tables of UTF-8; internal/bytealg.MaxLen; strconv's two error variables. The walks of be.Put, the document's Number. Conditions: a number of 63 bits that isn't negative, at most eight bytes. The walks of rec.Sum and the document's Sum. Conditions: a row of at most 2^40 bytes. The walks of the document's section, of inTime, time and both Id. Conditions: a tag below 256, rows of at most 2^31 bytes; the data lie apart from the list that is written on. The walk of object.right; an entry's cells. Conditions: none. -/
import Derived.Test.YtkempjcphpnocaaGreatDoorZ02
import Derived.Deep.CutBlock
import Derived.Deep.DeepCutAuto
import Derived.IntWalk
import Derived.Laws.BitsLemmas
import Derived.Deep.QuietTactic
import Derived.BigQuiet
import Derived.Laws.MakeOwn
import Derived.Laws.BitsAllLaws
namespace Go.Proofs.YtkempjcphpnocaaGreatDoor
open Go.RowKit
def TvRow (w u:World) (fs:List FD) (tv:Value):Prop:=∃ TA tc,tv=.slice TA fs.length tc∧Row u (w.heap.size+1) 167 2 TA fs.length tc (fcells fs)
theorem TvRow.nil (w u:World):TvRow w u [] (.slice none 0 0):=⟨none,0,rfl,Row.none_ _ _ _ _⟩
end Go.Proofs.YtkempjcphpnocaaGreatDoor
namespace Go.Proofs.YtkempjcphpnocaaGreatDoor
open Go.RowKit
namespace C
def fin (data:List UInt8) (a:Nat) (l:List UInt8):CD:=if tailE l≠0∨tailN l=0 then .bad (tailE l) else ⟨data,tailF l,a+tailN l,0⟩
def dat (data:List UInt8) (z a:Nat) (l:List UInt8):CD:=if l.length < z+2 then .bad 0 else if P.crlf.isPrefixOf (l.drop z)=false then .bad 70 else dec (data++l.take z) (a+z+2) (l.drop (z+2))
end C
def RetCD (w:World) (r:C.CD) (e:Ending) (w':World):Prop :=
 ∃ A c TA tc,e=.returned (.tuple #[.slice A r.d.length c,.slice TA r.f.length tc,.int .i64 r.n,.int .i64 r.e])∧Row w' w.heap.size 5 1 A r.d.length c (bcells r.d)∧Row w' w.heap.size 167 2 TA r.f.length tc (fcells r.f)∧Below w.heap.size w w'
theorem RetCD.bad {w w':World} {r:C.CD} {code:Int} (hb:Below w.heap.size w w') (h:r=.bad code):RetCD w r (.returned (.tuple #[.slice none 0 0,.slice none 0 0,.int .i64 0,.int .i64 code])) w':=by
 subst h
 exact⟨none,0,none,0,rfl,Row.none_ _ _ _ _,Row.none_ _ _ _ _,hb⟩
end Go.Proofs.YtkempjcphpnocaaGreatDoor
namespace Go.Proofs.YtkempjcphpnocaaGreatDoor
open Go.RowKit
namespace C
theorem take_at {l:List UInt8} {p:UInt8→Bool} {k j:Nat} (h:(l.take k).all p=true) (hj:j < k) (hl:j < l.length):p l[j]=true:=by
 rw[List.all_eq_true]at h
 exact h _ (List.mem_take_iff_getElem.2 ⟨j,by omega,rfl⟩)
end C
end Go.Proofs.YtkempjcphpnocaaGreatDoor
namespace Go.Proofs.YtkempjcphpnocaaGreatDoor
open Go.RowKit
def RetTail (w:World) (l:List UInt8) (e:Ending) (w':World):Prop :=
 ∃ A c,e=.returned (.tuple #[.slice A (C.tailF l).length c,.int .i64 (C.tailN l),.int .i64 (C.tailE l)])∧Row w' w.heap.size 167 2 A (C.tailF l).length c (fcells (C.tailF l))∧Below w.heap.size w w'
theorem RetTail.bad {w w':World} {l:List UInt8} {N:Nat} {code:Int} (hb:Below w.heap.size w w') (hf:C.tailF l=[]) (hn:C.tailN l=N) (he:C.tailE l=code):RetTail w l (.returned (.tuple #[.slice none 0 0,.int .i64 N,.int .i64 code])) w':=by
 refine⟨none,0,?_,?_,hb⟩
 ·rw[hf,hn,he];rfl
 ·rw[hf];exact Row.none_ _ _ _ _
end Go.Proofs.YtkempjcphpnocaaGreatDoor
namespace Go.Proofs.YtkempjcphpnocaaGreatDoor
open Go.RowKit
abbrev PQ:=Option Addr × Nat × List UInt8
def pq (x:PQ):Value:=.slice x.1 x.2.2.length x.2.1
def pcells (l:List PQ):List Value:=l.map pq
def later (l:List PQ) (k:Nat):List UInt8:=((l.drop k).map (·.2.2)).flatten
structure PRow (w:World) (base:Nat) (A:Option Addr) (c:Nat) (l:List PQ):Prop where
 row:Row w base 26 1 A l.length c (pcells l)
 all:∀ x∈l,CRow w base x.1 x.2.2.length x.2.1 x.2.2
 sep:∀ x∈l,∀ k,ownB x.1 x.2.1=some k→ownB A c≠some k
section
variable {w w':World} {base:Nat} {A:Option Addr} {c:Nat} {l:List PQ}
theorem PRow.nil (w:World) (base:Nat) (A:Option Addr):PRow w base A 0 []:=⟨Row.empty _ _ _ _ _,by simp,by simp⟩
theorem PRow.below (h:PRow w base A c l) (hb:Below w.heap.size w w'):PRow w' base A c l:=⟨h.row.below hb,fun x hx=>(h.all x hx).below hb,h.sep⟩
theorem PRow.snoc {w1 w2:World} {A':Option Addr} {c':Nat} {x:PQ} (h:PRow w base A c l) (hb:Below w.heap.size w w1) (hx:CRow w1 w.heap.size x.1 x.2.2.length x.2.1 x.2.2) (hbase:base≤w.heap.size)
  (hr:Row w2 base 26 1 A' (l.length+1) c' (pcells (l++[x]))) (ha:App w1 w2 A c A' c'):PRow w2 base A' c' (l++[x]):=by
 have hx':=hx
 have hsepx:∀ k,ownB x.1 x.2.1=some k→ownB A c≠some k:=fun k hk e=>by
  have h1:=(hx.lt k hk).1
  have h2:=(h.row.lt k e).2
  omega
 have hlt:∀ y∈l++[x],∀ k,ownB y.1 y.2.1=some k→k < w1.heap.size:=fun y hy k hk=>by
  rcases List.mem_append.1 hy with hy | hy
  ·exact Nat.lt_of_lt_of_le ((h.all y hy).lt k hk).2 hb.size
  ·rw[List.mem_singleton.1 hy]at hk
   exact (hx.lt k hk).2
 have hsep:∀ y∈l++[x],∀ k,ownB y.1 y.2.1=some k→ownB A c≠some k:=fun y hy k hk=>by
  rcases List.mem_append.1 hy with hy | hy
  ·exact h.sep y hy k hk
  ·rw[List.mem_singleton.1 hy]at hk
   exact hsepx k hk
 refine⟨by rw[List.length_append];exact hr,fun y hy=>?_,fun y hy k hk=>?_⟩
 ·rcases List.mem_append.1 hy with hm | hm
  ·exact ((h.all y hm).below hb).kept ha.grown (fun k hk=>hsep y hy k hk)
  ·have e:=List.mem_singleton.1 hm
   subst e
   exact (hx.mono hbase).kept ha.grown (fun k hk=>hsep y hy k hk)
 ·rcases ha.moved with ⟨rfl,rfl⟩ | ⟨g,rfl,hg⟩
  ·exact hsep y hy k hk
  ·intro e
   have:=hlt y hy k hk
   unfold ownB at e
   split at e
   ·cases e
   ·simp at e
    omega
theorem PRow.at (h:PRow w base A c l) {k:Nat} (hk:k < l.length):∃ b o,A=some ⟨b,o,none⟩∧b < w.heap.size∧base≤b∧w.cell? ⟨b,o+k,none⟩=some (.slice (l[k]'hk).1 (l[k]'hk).2.2.length (l[k]'hk).2.1):=by
 obtain⟨b,o,u,e,hlt,hu,hc⟩:=h.row.rd.at1 hk
 have hb0:base≤b:=by
  have hcp:=h.row.cap.1
  refine (h.row.lt b ?_).1
  rw[e]
  unfold ownB
  rw[if_neg (by omega)]
  rfl
 refine⟨b,o,e,hlt,hb0,?_⟩
 have:(pcells l)[k]?=some (pq (l[k]'hk)):=by
  unfold pcells
  rw[List.getElem?_map,List.getElem?_eq_getElem hk]
  rfl
 rw[this]at hu
 rw[hc,← hu]
 rfl
end
end Go.Proofs.YtkempjcphpnocaaGreatDoor
namespace Go.Proofs.YtkempjcphpnocaaGreatDoor
open Go.RowKit
namespace M
structure BD where
 d:List UInt8
 f:List FD
 n:Int
 e:Int
def BD.bad (e:Int):BD:=⟨[],[],0,e⟩
def body (bs:List UInt8) (N:Nat) (k z:Int):BD :=
 if k=1 then (if (bs.length:Int) < N+z then .bad 0 else ⟨(bs.drop N).take z.toNat,[],N+z,0⟩)
 else if k=2 then (if (C.decode (bs.drop N)).e≠0∨(C.decode (bs.drop N)).n=0 then .bad (C.decode (bs.drop N)).e else ⟨(C.decode (bs.drop N)).d,(C.decode (bs.drop N)).f,N+((C.decode (bs.drop N)).n:Int),0⟩)
 else ⟨[],[],N+z,0⟩
end M
theorem CRow.farB {w:World} {base:Nat} {A:Option Addr} {n c b:Nat} {bs:List UInt8} (h:CRow w base A n c bs) (hb:b < base) (i:Nat) (x:Value):CRow (w.setCell ⟨b,i,none⟩ x) base A n c bs:=by
 refine⟨h.1,h.2.1,?_⟩
 rcases h.2.2 with h0 | ⟨g,hg,h1,h2,h3,h4⟩
 ·exact .inl h0
 ·have hne:(⟨b,i,none⟩:Addr).block≠g:=by show b≠g;omega
  have hbl:(w.setCell ⟨b,i,none⟩ x).heap[g]?=w.heap[g]?:=by
   unfold World.setCell
   simp only[Array.getElem?_modify]
   rw[if_neg hne]
  have hc:∀ j,(w.setCell ⟨b,i,none⟩ x).cell? ⟨g,j,none⟩=w.cell? ⟨g,j,none⟩:=fun j=>by
   unfold World.cell?
   simp only[hbl]
  have hf:∀ j,(w.setCell ⟨b,i,none⟩ x).frozen? ⟨g,j,none⟩=w.frozen? ⟨g,j,none⟩:=fun j=>by
   unfold World.frozen?
   simp only[hbl]
  refine .inr ⟨g,hg,h1,by rw[World.size_setCell];exact h2,fun j hj=>?_,fun j u hu=>?_⟩
  ·rw[hc,hf];exact h3 j hj
  ·rw[hc];exact h4 j u hu
def Fills (p:Nat) (w w':World):Prop:=∃ w1,Below w.heap.size w w1∧(w'=w1∨∃ x,w'=w1.setCell ⟨p,8,none⟩ x∨∃ y,w'=(w1.setCell ⟨p,8,none⟩ x).setCell ⟨p,9,none⟩ y)
section
variable {p:Nat} {w w':World}
theorem Fills.of (h:Below w.heap.size w w'):Fills p w w':=⟨w',h,.inl rfl⟩
theorem Fills.one {w1:World} (h:Below w.heap.size w w1) (x:Value):Fills p w (w1.setCell ⟨p,8,none⟩ x):=⟨w1,h,.inr ⟨x,.inl rfl⟩⟩
theorem Fills.two {w1:World} (h:Below w.heap.size w w1) (x y:Value):Fills p w ((w1.setCell ⟨p,8,none⟩ x).setCell ⟨p,9,none⟩ y):=⟨w1,h,.inr ⟨x,.inr ⟨y,rfl⟩⟩⟩
theorem Fills.blk (h:Fills p w w') {b:Nat} {cs:Array Value} {t:TypeId} (hb:Blk w b cs t) (hne:p≠b):Blk w' b cs t:=by
 obtain⟨w1,h1,rfl | ⟨x,rfl | ⟨y,rfl⟩⟩⟩:=h
 ·exact hb.below h1
 ·exact (hb.below h1).far 8 x hne
 ·exact ((hb.below h1).far 8 x hne).far 9 y hne
theorem Fills.row (h:Fills p w w') {base:Nat} {e:TypeId} {size n c:Nat} {A:Option Addr} {xs:List Value} {cs:Array Value} {t:TypeId} (hr:Row w base e size A n c xs) (hp:Blk w p cs t) (hne:t≠e):Row w' base e size A n c xs:=by
 obtain⟨w1,h1,rfl | ⟨x,rfl | ⟨y,rfl⟩⟩⟩:=h
 ·exact hr.below h1
 ·exact (hr.below h1).farT (hp.below h1) hne 8 x
 ·exact ((hr.below h1).farT (hp.below h1) hne 8 x).farT ((hp.below h1).set 8 x) hne 9 y
theorem Fills.low (h:Fills p w w') {B:Nat} {w0:World} (hl:Below B w0 w) (hs:B≤w.heap.size) (hB:B≤p):Below B w0 w':=by
 obtain⟨w1,h1,rfl | ⟨x,rfl | ⟨y,rfl⟩⟩⟩:=h
 ·exact below_then hs hl h1
 ·exact below_set (below_then hs hl h1) hB 8 x
 ·exact below_set (below_set (below_then hs hl h1) hB 8 x) hB 9 y
end
end Go.Proofs.YtkempjcphpnocaaGreatDoor
namespace Go.Proofs.YtkempjcphpnocaaGreatDoor
open Go.RowKit
section
variable {w:World} {b:Nat} {t:TypeId} {x0 x1 x2 x3 x4 x5 x6 x7 x8 x9:Value}
theorem Blk.cells10 (h:Blk w b #[x0,x1,x2,x3,x4,x5,x6,x7,x8,x9] t):w.cell? ⟨b,0,none⟩=some x0∧w.cell? ⟨b,1,none⟩=some x1∧w.cell? ⟨b,2,none⟩=some x2∧w.cell? ⟨b,3,none⟩=some x3∧w.cell? ⟨b,4,none⟩=some x4∧w.cell? ⟨b,5,none⟩=some x5∧w.cell? ⟨b,6,none⟩=some x6∧w.cell? ⟨b,7,none⟩=some x7∧w.cell? ⟨b,8,none⟩=some x8∧w.cell? ⟨b,9,none⟩=some x9:=⟨h.cell 0 rfl,h.cell 1 rfl,h.cell 2 rfl,h.cell 3 rfl,h.cell 4 rfl,h.cell 5 rfl,h.cell 6 rfl,h.cell 7 rfl,h.cell 8 rfl,h.cell 9 rfl⟩
def ten (w:World) (b:Nat) (y0 y1 y2 y3 y4 y5 y6 y7 y8 y9:Value):World:=((((((((((w.setCell ⟨b,0,none⟩ y0).setCell ⟨b,1,none⟩ y1).setCell ⟨b,2,none⟩ y2).setCell ⟨b,3,none⟩ y3).setCell ⟨b,4,none⟩ y4).setCell ⟨b,5,none⟩ y5).setCell ⟨b,6,none⟩ y6).setCell ⟨b,7,none⟩ y7).setCell ⟨b,8,none⟩ y8).setCell ⟨b,9,none⟩ y9)
end
namespace M
structure MQ where
 m:ByteArray
 t:ByteArray
 v:Int
 fs:List FD
 d:List UInt8
 f:List FD
 n:Int
 e:Int
def MQ.bad (e:Int):MQ:=⟨⟨#[]⟩,⟨#[]⟩,0,[],[],[],0,e⟩
def whole (q:P.RQ) (b:BD):MQ:=if b.e≠0∨b.n=0 then .bad b.e else ⟨q.m,q.t,q.v,q.fs,b.d,b.f,b.n,0⟩
def framed (bs:List UInt8) (q:P.RQ) (f:F.FR):MQ:=if f.e≠0 then .bad f.e else whole q (body bs q.n.toNat f.k f.n)
def request (bs:List UInt8):MQ:=if (P.request bs).e≠0∨(P.request bs).n=0 then .bad (P.request bs).e else framed bs (P.request bs) (F.frame (P.request bs).v (P.request bs).fs 0)
end M
def RetMsg (w:World) (r:M.MQ) (e:Ending) (w':World):Prop :=
 ∃ A c D d T k,e=.returned (.tuple #[.agg #[.string r.m,.string r.t,.int .i64 r.v,.slice A r.fs.length c,.int .i64 0,.string ⟨#[]⟩,.int .i64 0,.slice none 0 0,.slice D r.d.length d,.slice T r.f.length k],.int .i64 r.n,.int .i64 r.e]) ∧
  Row w' w.heap.size 167 2 A r.fs.length c (fcells r.fs)∧CRow w' w.heap.size D r.d.length d r.d∧Row w' w.heap.size 167 2 T r.f.length k (fcells r.f)∧Below w.heap.size w w'
theorem RetMsg.bad {w w':World} {r:M.MQ} {code:Int} (hb:Below w.heap.size w w') (h:r=.bad code):RetMsg w r (.returned (.tuple #[.agg #[.string ⟨#[]⟩,.string ⟨#[]⟩,.int .i64 0,.slice none 0 0,.int .i64 0,.string ⟨#[]⟩,.int .i64 0,.slice none 0 0,.slice none 0 0,.slice none 0 0],.int .i64 0,.int .i64 code])) w':=by
 subst h
 exact⟨none,0,none,0,none,0,rfl,Row.none_ _ _ _ _,CRow.none_ _ _,Row.none_ _ _ _ _,hb⟩
end Go.Proofs.YtkempjcphpnocaaGreatDoor
namespace Go.Proofs.YtkempjcphpnocaaGreatDoor
open Go.RowKit
def dig (v i:Nat):UInt8:=UInt8.ofNat (v / 2 ^ (8 * i) % 256)
def beN (v:Nat):Nat→List UInt8
 | 0=>[]
 | k+1=>dig v k::beN v k
theorem beN_len (v:Nat):∀ k,(beN v k).length=k
 | 0=>rfl
 | k+1=>by rw[beN,List.length_cons,beN_len v k]
theorem dig_nat (v i:Nat):((dig v i).toNat:Int)=(v:Int) / 2 ^ (8 * i) % 256:=by
 have h:(dig v i).toNat=v / 2 ^ (8 * i) % 256:=by
  unfold dig
  rw[UInt8.toNat_ofNat']
  exact Nat.mod_mod _ _
 rw[h,Int.natCast_emod,Int.natCast_ediv,Int.natCast_pow]
 rfl
theorem App.next {w w1 w2:World} {A A1 A2:Option Addr} {c c1 c2:Nat} (h1:App w w1 A c A1 c1) (h2:App w1 w2 A1 c1 A2 c2):App w w2 A c A2 c2:=by
 refine⟨h1.grown.andThen h2.grown fun j hj=>?_,?_⟩
 ·rcases h1.moved with ⟨rfl,rfl⟩ | ⟨g,rfl,hg⟩
  ·exact .inr hj
  ·unfold ownB at hj
   split at hj
   ·cases hj
   ·simp at hj
    exact .inl (by omega)
 ·rcases h2.moved with ⟨rfl,rfl⟩ | ⟨g,rfl,hg⟩
  ·exact h1.moved
  ·exact .inr ⟨g,rfl,Nat.le_trans h1.grown.size hg⟩
theorem App.pre {w w1 w2:World} {A A2:Option Addr} {c c2:Nat} (h1:Below w.heap.size w w1) (h2:App w1 w2 A c A2 c2):App w w2 A c A2 c2 :=
 ⟨grown_trans h1 h2.grown,h2.moved.imp id fun⟨g,h,hg⟩=>⟨g,h,Nat.le_trans h1.size hg⟩⟩
theorem App.start (w:World) (A:Option Addr) (c:Nat):App w w A c A c:=⟨World.grownBy.refl _ _,.inl ⟨rfl,rfl⟩⟩
set_option maxRecDepth 100000 in
set_option maxHeartbeats 1000000 in
theorem put_be (base:Nat) (A:Option Addr) (c v k:Nat) (bs:List UInt8) (w:World) (hn:bs.length≤1099511627776) (hk:k≤8) (hv:v < 9223372036854775808) (hr:CRow w base A bs.length c bs) (hb:base≤w.heap.size) :
  Calls Tryz.prog 78 #[.slice A bs.length c,.int .i64 v,.int .i64 k] w (fun e w'=>∃ A' c',e=.returned (.slice A' (bs.length+k) c')∧CRow w' base A' (bs.length+k) c' (bs++beN v k)∧App w w' A c A' c'):=by
 have HR:=Lib.hid hr
 obtain⟨n,hnn⟩:∃ n,n=bs.length:=⟨_,rfl⟩
 rw[← hnn]at HR hn ⊢
 clear hr
 go_enter Tryz.func78,Tryz.ntmps78
 go_wp2
 go_loopw [0,7] (fun o i wr=>∃ (j:Nat) (A2:Option Addr) (c2:Nat) (xs:List UInt8),j≤k∧i=.int .i64 ((j:Int) - 1)∧o=.slice A2 (n+k - j) c2∧CRow wr base A2 (n+k - j) c2 xs∧xs++beN v j=bs++beN v k∧App w wr A c A2 c2) (fun _ i _=>(intOf i+1).toNat)
 case atStart=>exact⟨k,A,c,bs,Nat.le_refl _,by go_num,by rw[Nat.add_sub_cancel],by rw[Nat.add_sub_cancel];exact HR.out,rfl,App.start _ _ _⟩
 case round =>
  obtain⟨j,A2,c2,xs,hj,rfl,rfl,hrow,hxs,happ⟩:=hrel
  have HROW:=Lib.hid hrow
  have HAPP:=Lib.hid happ
  have HXS:=Lib.hid hxs
  have hz:=happ.grown.size
  clear hrow happ hxs HR
  rcases Nat.eq_zero_or_pos j with h0 | h0
  ·subst h0
   go_wp2
   go_ret
   refine⟨A2,c2,by rw[Nat.sub_zero];rfl,?_,HAPP.out⟩
   have h1:=HROW.out
   have h2:=HXS.out
   rw[beN,List.append_nil]at h2
   rw[Nat.sub_zero,h2]at h1
   exact h1
  ·have hmb:n+k - j≤1099511627784:=by omega
   obtain⟨i,rfl⟩:∃ i,j=i+1:=⟨j - 1,by omega⟩
   have e1:((i+1:Nat):Int) - 1=(i:Int):=by omega
   rw[e1]
   obtain⟨m,hm⟩:∃ m,m=n+k - (i+1):=⟨_,rfl⟩
   rw[← hm]at HROW hmb ⊢
   have hi0:(0:Int)≤(i:Int):=by omega
   have hnew:=fun u:World=>newB u (dig v i)
   rw[dig_nat]at hnew
   have HNEW:=Lib.hid hnew
   clear hnew
   have HML:Hid (n+k - i=m+1):=Lib.hid (by omega)
   clear hm
   go_wp2_with (at_builtin;refine appC _ rfl (.tmp 14) (.tmp 21) rfl base A2 m c2 xs rfl (HROW.out.alloc _) _ 1 1 [dig v i] rfl (HNEW.out _) (by omega) (by rw[World.size_alloc];omega) ?_;intro A3 c3 w3 hr3 ha3;have HR3:=Lib.hid hr3;have HA3:=Lib.hid (App.next HAPP.out (App.pre ((Below.refl _ _).alloc (Nat.le_refl _) _) ha3));clear hr3 ha3)
   go_roundw
   case rel =>
    refine⟨i,A3,c3,xs++[dig v i],by omega,by go_num,?_,?_,?_,HA3.out⟩
    ·rw[HML.out]
    ·rw[HML.out];exact HR3.out
    ·have:=HXS.out
     rw[beN]at this
     rw[List.append_assoc]
     exact this
   case measure=>simp [intOf]
end Go.Proofs.YtkempjcphpnocaaGreatDoor
namespace Go.Proofs.YtkempjcphpnocaaGreatDoor
open Go.RowKit
def bitS (v:Nat):Nat:=if v % 2=1 then v / 2 ^^^ 3988292384 else v / 2
def bitsS (v:Nat):Nat→Nat
 | 0=>v
 | k+1=>bitS (bitsS v k)
def byteS (v:Nat) (c:UInt8):Nat:=bitsS (v ^^^ c.toNat) 8
def sumS (bs:List UInt8):Nat:=bs.foldl byteS 4294967295
def sumN (bs:List UInt8):Nat:=sumS bs ^^^ 4294967295
theorem xor_lt {a b:Nat} (ha:a < 4294967296) (hb:b < 4294967296):a ^^^ b < 4294967296:=Nat.xor_lt_two_pow (n:=32) ha hb
theorem bitS_lt {v:Nat} (h:v < 4294967296):bitS v < 4294967296:=by
 unfold bitS
 split
 ·exact xor_lt (by omega) (by decide)
 ·omega
theorem bitsS_lt {v:Nat} (h:v < 4294967296):∀ k,bitsS v k < 4294967296
 | 0=>h
 | k+1=>bitS_lt (bitsS_lt h k)
theorem byteS_lt {v:Nat} (h:v < 4294967296) (c:UInt8):byteS v c < 4294967296:=bitsS_lt (xor_lt h (by have:=c.toNat_lt;omega)) 8
theorem foldS_lt:∀ (bs:List UInt8) (v:Nat),v < 4294967296→bs.foldl byteS v < 4294967296
 | [],_,h=>h
 | c::bs,_,h=>foldS_lt bs _ (byteS_lt h c)
theorem sumS_lt (bs:List UInt8):sumS bs < 4294967296:=foldS_lt bs _ (by decide)
theorem sumN_lt (bs:List UInt8):sumN bs < 4294967296:=xor_lt (sumS_lt bs) (by decide)
theorem sumS_next (bs:List UInt8) (i:Nat) (h:i < bs.length):sumS (bs.take (i+1))=byteS (sumS (bs.take i)) bs[i]:=by
 unfold sumS
 rw[List.take_add_one,List.getElem?_eq_getElem h,List.foldl_append]
 rfl
theorem step_eq (q:Nat) (h:q < 4294967296):bits .xor .u32 ((q:Int) / 2) (bits .and .u32 3988292384 (-bits .and .u32 (q:Int) 1 % 4294967296))=((bitS q:Nat):Int):=by
 have hand:=u32_and_nat q 1 h (by decide)
 rw[Nat.and_one_is_mod,show ((1:Nat):Int)=1 from rfl]at hand
 have hd:(q:Int) / 2=((q / 2:Nat):Int):=by omega
 rw[hand,hd]
 unfold bitS
 rcases (by omega:q % 2=1∨q % 2=0) with h2 | h2
 ·rw[h2,if_pos rfl]
  have h3:=u32_and_nat 3988292384 4294967295 (by decide) (by decide)
  have h4:(3988292384 &&& 4294967295:Nat)=3988292384:=by decide
  rw[h4]at h3
  have h5:(-((1:Nat):Int)) % 4294967296=((4294967295:Nat):Int):=by decide
  rw[h5,show (3988292384:Int)=((3988292384:Nat):Int) from rfl,h3]
  exact u32_xor_nat _ _ (by omega) (by decide)
 ·rw[h2,if_neg (by decide)]
  have h3:=u32_and_nat 3988292384 0 (by decide) (by decide)
  rw[Nat.and_zero]at h3
  have h5:(-((0:Nat):Int)) % 4294967296=((0:Nat):Int):=by decide
  rw[h5,show (3988292384:Int)=((3988292384:Nat):Int) from rfl,h3]
  have:=u32_xor_nat (q / 2) 0 (by omega) (by decide)
  rw[Nat.xor_zero]at this
  exact this
set_option maxRecDepth 100000 in
set_option maxHeartbeats 1000000 in
theorem sum_any (A:Option Addr) (c:Nat) (bs:List UInt8) (w:World) (hn:bs.length≤1099511627776) (hx:Rd w A bs.length 1 (bcells bs)) :
  Calls Tryz.prog 79 #[.slice A bs.length c] w (fun e w'=>e=.returned (.int .i64 (sumN bs))∧Below w.heap.size w w'):=by
 have HX:=Lib.hid hx
 clear hx
 obtain⟨n,hnn⟩:∃ n,n=bs.length:=⟨_,rfl⟩
 rw[← hnn]at HX hn ⊢
 have HN:=Lib.hid hnn
 clear hnn
 go_enter Tryz.func79,Tryz.ntmps79
 go_wp2
 go_loopw [3,8] (fun x i wr=>∃ k:Nat,k≤n∧i=.int .i64 k∧x=.int .u32 (sumS (bs.take k))∧w=wr) (fun _ i _=>n - (intOf i).toNat)
 case atStart=>exact⟨0,Nat.zero_le _,rfl,rfl,rfl⟩
 case round =>
  obtain⟨k,hk,rfl,rfl,rfl⟩:=hrel
  have hvl:=sumS_lt (bs.take k)
  by_cases hlt:k < n
  ·have hkb:k < bs.length:=by have:=HN.out;omega
   obtain⟨b,o,hA,hblt,hcs⟩:=HX.out.2 (by omega)
   have hce:=hcs k (.int .u8 (bs[k]'hkb).toNat) (by simp [bcells,hkb])
   have HNX:=Lib.hid (sumS_next bs k hkb)
   have hy:=(bs[k]'hkb).toNat_lt
   generalize (bs[k]'hkb)=y at *
   generalize sumS (bs.take k)=x at *
   subst hA
   have hxor:=u32_xor_nat x y.toNat hvl (by omega)
   have hxl:=xor_lt (b:=y.toNat) hvl (by omega)
   clear hcs HX
   obtain⟨z,hz⟩:∃ z,z=x ^^^ y.toNat:=⟨_,rfl⟩
   rw[← hz]at hxor hxl
   have HNX':Hid (sumS (bs.take (k+1))=bitsS z 8):=by
    have h:=HNX.out
    unfold byteS at h
    rw[← hz]at h
    exact Lib.hid h
   clear hz HNX
   go_wp2_with fail
   go_loopw [3,16] (fun x i wi=>∃ j:Nat,j≤8∧i=.int .i64 j∧x=.int .u32 (bitsS z j)∧w=wi) (fun _ i _=>8 - (intOf i).toNat)
   case atStart=>exact⟨0,Nat.zero_le _,rfl,rfl,rfl⟩
   case round =>
    obtain⟨j,hj,rfl,rfl,rfl⟩:=hrel
    have hql:=bitsS_lt hxl j
    have HS:Hid (bitsS z (j+1)=bitS (bitsS z j)):=Lib.hid rfl
    by_cases hj8:j < 8
    ·generalize bitsS z j=q at *
     have HST:=Lib.hid (step_eq q hql)
     go_wp2_with fail
     refine⟨⟨j+1,by omega,by go_num,?_,trivial⟩,by simp [intOf];omega⟩
     rw[HST.out,← HS.out]
    ·obtain rfl:j=8:=by omega
     rw[← HNX'.out]
     clear HS
     go_wp2_with fail
     exact⟨⟨k+1,by omega,by go_num,rfl,trivial⟩,by simp [intOf];omega⟩
  ·obtain rfl:k=n:=by omega
   have hst:bs.take k=bs:=List.take_of_length_le (by have:=HN.out;omega)
   rw[hst]
   rw[hst]at hvl
   have HU:Hid (sumN bs=sumS bs ^^^ 4294967295):=Lib.hid rfl
   clear hst
   generalize sumS bs=x at *
   have hxor:=u32_xor_nat 4294967295 x (by decide) hvl
   rw[Nat.xor_comm,← HU.out]at hxor
   have hmx:bits .xor .u32 IntKind.u32.max (x:Int)=((sumN bs:Nat):Int):=hxor
   have hwr:wrap64 ((sumN bs:Nat):Int)=((sumN bs:Nat):Int):=by
    have:=sumN_lt bs
    unfold wrap64
    omega
   have HR:Hid (wrap64 (bits .xor .u32 IntKind.u32.max (x:Int))=((sumN bs:Nat):Int)):=by
    rw[hmx];exact Lib.hid hwr
   clear hxor hmx hwr
   go_wp2
   go_ret
   refine⟨?_,Below.refl _ _⟩
   show Ending.returned (.int .i64 (wrap64 (bits .xor .u32 IntKind.u32.max (x:Int))))=_
   rw[HR.out]
end Go.Proofs.YtkempjcphpnocaaGreatDoor
namespace Go.Proofs.YtkempjcphpnocaaGreatDoor
open Go.RowKit
def secB (t:Nat) (data:List UInt8):List UInt8:=UInt8.ofNat t::(beN data.length 4++data)
theorem secB_len (t:Nat) (data:List UInt8):(secB t data).length=5+data.length:=by
 unfold secB
 rw[List.length_cons,List.length_append,beN_len]
 omega
def timeB (v:Int):Bool:=decide (0≤v∧v≤253402300799)
theorem inTime_any (v:Int) (w:World):Calls Tryz.prog 103 #[.int .i64 v] w (RetB w (timeB v)):=by
 by_cases h0:0≤v
 ·by_cases h1:v≤253402300799
  ·rw[show timeB v=true from decide_eq_true ⟨h0,h1⟩]
   go_enter Tryz.func103,Tryz.ntmps103
   go_wp2
   go_ret
   exact⟨rfl,Below.refl _ _⟩
  ·rw[show timeB v=false from decide_eq_false fun h=>h1 h.2]
   go_enter Tryz.func103,Tryz.ntmps103
   go_wp2
   go_ret
   exact⟨rfl,Below.refl _ _⟩
 ·rw[show timeB v=false from decide_eq_false fun h=>h0 h.1]
  go_enter Tryz.func103,Tryz.ntmps103
  go_wp2
  go_ret
  exact⟨rfl,Below.refl _ _⟩
theorem id_any (k v:ByteArray) (w:World) (hk:k.size≤1073741824) (hv:v.size≤1073741824):Calls Tryz.prog 38 #[.string k,.string v] w (RetS w (k++⟨#[10]⟩++v)):=by
 go_enter Tryz.func38,Tryz.ntmps38
 go_wp2
 go_ret
 exact⟨rfl,Below.refl _ _⟩
theorem refId_any (k v:ByteArray) (w:World) (hk:k.size≤1073741824) (hv:v.size≤1073741824):Calls Tryz.prog 19 #[.string k,.string v] w (RetS w (k++⟨#[10]⟩++v)):=by
 go_enter Tryz.func19,Tryz.ntmps19
 go_wp2
 go_ret
 exact⟨rfl,Below.refl _ _⟩
end Go.Proofs.YtkempjcphpnocaaGreatDoor
namespace Go.Proofs.YtkempjcphpnocaaGreatDoor
open Go.RowKit
section
variable {w:World} {b:Nat} {x0 x1 x2 x3 x4 x5 x6 x7 x8:Value} {t:TypeId}
theorem Blk.cells9 (h:Blk w b #[x0,x1,x2,x3,x4,x5,x6,x7,x8] t):w.cell? ⟨b,0,none⟩=some x0∧w.cell? ⟨b,1,none⟩=some x1∧w.cell? ⟨b,2,none⟩=some x2∧w.cell? ⟨b,3,none⟩=some x3∧w.cell? ⟨b,4,none⟩=some x4∧w.cell? ⟨b,5,none⟩=some x5∧w.cell? ⟨b,6,none⟩=some x6∧w.cell? ⟨b,7,none⟩=some x7∧w.cell? ⟨b,8,none⟩=some x8 :=
 ⟨h.cell 0 rfl,h.cell 1 rfl,h.cell 2 rfl,h.cell 3 rfl,h.cell 4 rfl,h.cell 5 rfl,h.cell 6 rfl,h.cell 7 rfl,h.cell 8 rfl⟩
end
def okE (k v:ByteArray) (nb:Nat) (asked got:Int):Bool:=decide (k.size≠0∧k.size≤4096∧v.size≤4096∧nb≤65536∧timeB asked=true∧timeB got=true)
theorem empty_of_size {k:ByteArray} (h:k.size=0):k=⟨#[]⟩:=by
 obtain⟨d⟩:=k
 have:d=#[]:=Array.eq_empty_of_size_eq_zero h
 rw[this]
set_option maxRecDepth 100000 in
set_option maxHeartbeats 1000000 in
theorem right_any (k v:ByteArray) (s:Int) (r:ByteArray) (m:Int) (A:Option Addr) (nf cf:Nat) (X:Option Addr) (nb cb:Nat) (asked got:Int) (w:World):Calls Tryz.prog 77 #[.agg #[.string k,.string v,.int .i64 s,.string r,.int .i64 m,.slice A nf cf,.slice X nb cb,.int .i64 asked,.int .i64 got]] w (RetB w (okE k v nb asked got)):=by
 have HK:=Lib.hid (Blk.new w #[.string k,.string v,.int .i64 s,.string r,.int .i64 m,.slice A nf cf,.slice X nb cb,.int .i64 asked,.int .i64 got] 28)
 have HB:=Lib.hid ((Below.refl w.heap.size w).alloc (Nat.le_refl _) (.cells #[.string k,.string v,.int .i64 s,.string r,.int .i64 m,.slice A nf cf,.slice X nb cb,.int .i64 asked,.int .i64 got] 28))
 have HT1:=Lib.hid (fun u=>inTime_any asked u)
 have HT2:=Lib.hid (fun u=>inTime_any got u)
 obtain⟨ok,hok⟩:∃ ok,ok=okE k v nb asked got:=⟨_,rfl⟩
 rw[← hok]
 unfold okE at hok
 by_cases h0:k.size=0
 ·obtain rfl:ok=false:=hok.trans (decide_eq_false fun h=>h.1 h0)
  obtain rfl:=empty_of_size h0
  clear hok HT1 HT2
  go_enter Tryz.func77,Tryz.ntmps77
  obtain⟨x0,x1,x2,x3,x4,x5,x6,x7,x8⟩:=HK.out.cells9
  go_wp2
  go_ret
  exact⟨rfl,HB.out⟩
 have h01:¬ k.toList=[]:=fun h=>h0 (by have:k=⟨#[]⟩:=toList_inj.1 (h.trans (by simp));rw[this];rfl)
 have h02:k.toList.isEmpty=false:=by cases h:k.toList<;>simp_all
 by_cases h1:(k.size:Int)≤4096
 rotate_left
 ·obtain rfl:ok=false:=hok.trans (decide_eq_false fun h=>by omega)
  clear hok HT1 HT2 h0
  go_enter Tryz.func77,Tryz.ntmps77
  obtain⟨x0,x1,x2,x3,x4,x5,x6,x7,x8⟩:=HK.out.cells9
  go_wp2
  go_ret
  exact⟨rfl,HB.out⟩
 by_cases h2:(v.size:Int)≤4096
 rotate_left
 ·obtain rfl:ok=false:=hok.trans (decide_eq_false fun h=>by omega)
  clear hok HT1 HT2 h0
  go_enter Tryz.func77,Tryz.ntmps77
  obtain⟨x0,x1,x2,x3,x4,x5,x6,x7,x8⟩:=HK.out.cells9
  go_wp2
  go_ret
  exact⟨rfl,HB.out⟩
 by_cases h3:(nb:Int)≤65536
 rotate_left
 ·obtain rfl:ok=false:=hok.trans (decide_eq_false fun h=>by omega)
  clear hok HT1 HT2 h0
  go_enter Tryz.func77,Tryz.ntmps77
  obtain⟨x0,x1,x2,x3,x4,x5,x6,x7,x8⟩:=HK.out.cells9
  go_wp2
  go_ret
  exact⟨rfl,HB.out⟩
 have hok2:ok=(timeB asked&&timeB got):=by
  rw[hok]
  have h1':k.size≤4096:=by omega
  have h2':v.size≤4096:=by omega
  have h3':nb≤65536:=by omega
  cases timeB asked<;>cases timeB got<;>simp [h0,h1',h2',h3']
 clear hok
 have HOK:=Lib.hid hok2
 clear hok2 h0
 generalize timeB asked=ta at *
 generalize timeB got=tg at *
 go_enter Tryz.func77,Tryz.ntmps77
 obtain⟨x0,x1,x2,x3,x4,x5,x6,x7,x8⟩:=HK.out.cells9
 go_wp2_with fail
 clear x0 x1 x2 x3 x4 x5 x6 x7 x8
 refine (HT1.out _).mono ?_
 rintro e w1 ⟨rfl,hb1⟩
 have HB1:=Lib.hid (below_then HB.out.size HB.out hb1)
 have HK1:=Lib.hid (HK.out.below hb1)
 clear hb1 HB HK HT1
 obtain⟨x0,x1,x2,x3,x4,x5,x6,x7,x8⟩:=HK1.out.cells9
 cases ta with
 | false =>
  obtain rfl:ok=false:=HOK.out
  go_wp2
  go_ret
  exact⟨rfl,HB1.out⟩
 | true =>
  obtain rfl:ok=tg:=by rw[HOK.out];rfl
  go_wp2_with fail
  clear x0 x1 x2 x3 x4 x5 x6 x7 x8
  refine (HT2.out _).mono ?_
  rintro e w2 ⟨rfl,hb2⟩
  have HB2:=Lib.hid (below_then HB1.out.size HB1.out hb2)
  clear hb2
  go_wp2
  go_ret
  exact⟨rfl,HB2.out⟩
end Go.Proofs.YtkempjcphpnocaaGreatDoor
