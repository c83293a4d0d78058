/- The walks of hop.Ask and of the document's. The walk of the document's Ask. The walk of the law HopAsks. The walks of the document's hex and size. The walk of the document's size line. The walks of the document's tail and Decode of chunked bodies. The walk of the disk's on (a step about a file that is there), over the look-up of a name. A whole message, as plain functions on its bytes; the walks of slices.Clone and inbox.fill. The walk of inbox.Request. The walks of the document's body and Request. The walk of the document's Request of whole messages. The walk of SameMessage, of two messages that read alike. The walk of the document's Encode (layer 12). What a response's reading tells of sizes, and its three ways. The walks of frame.OfResponse and the document's Bare and OfResponse. A response's message as a plain function on bytes; the walks of inbox.response and inbox.Response. The walk of the document's Response. Conditions: as each theorem states them. -/
import Derived.Test.YthjeglnkgdpijaaGreatDoorObjEnc
import Derived.Test.YthjeglnkgdpijaaGreatDoorHeadResp
set_option maxHeartbeats 2000000
namespace Go.Proofs.YthjeglnkgdpijaaGreatDoor
open Go.RowKit
namespace F
def plain (s:ByteArray):Bool:=decide (L s=[71,69,84])||decide (L s=[72,69,65,68])||decide (L s=[79,80,84,73,79,78,83])||decide (L s=[84,82,65,67,69])
end F
theorem rd_front {w:World} {A:Option Addr} {xs ys:List UInt8} (h:Rd w A (xs.length+ys.length) 1 (aB (xs++ys))):Rd w A xs.length 1 (aB xs):=by
 refine⟨by simp [aB],fun hn=>?_⟩
 obtain⟨b,o,e,hb,hc⟩:=h.2 (by omega)
 refine⟨b,o,e,hb,fun j u hu=>hc j u ?_⟩
 have e2:aB (xs++ys)=aB xs++aB ys:=by simp [aB]
 rw[e2,List.getElem?_append_left]
 ·exact hu
 ·exact (List.getElem?_eq_some_iff.1 hu).1
def aJ9 (w:World) (l:List UInt8) (e:Ending) (w':World):Prop :=
 ∃ A c,e=.returned (.tuple #[.slice A (C.aFI l).length c,.int .i64 (C.aFH l),.int .i64 (C.tailE l)])∧Row w' w.heap.size 60 2 A (C.aFI l).length c (aI (C.aFI l))∧Below w.heap.size w w'
theorem aJ9.bad {w w':World} {l:List UInt8} {N:Nat} {code:Int} (hb:Below w.heap.size w w') (hf:C.aFI l=[]) (hn:C.aFH l=N) (he:C.tailE l=code):aJ9 w l (.returned (.tuple #[.slice none 0 0,.int .i64 N,.int .i64 code])) w':=by
 refine⟨none,0,?_,?_,hb⟩
 ·rw[hf,hn,he];rfl
 ·rw[hf];exact Row.none_ _ _ _ _
open Go Go.Maps
namespace D
def kN (fa:Nat→Nat):Option Nat→Value
 | some no=>.pointer (some ⟨fa no,0,none⟩)
 | none=>.pointer none
end D
theorem bT:Tryz.prog.underlying 9=some .string:=by kernel_rfl
theorem wQ:Tryz.prog.underlying 91=some (.map 9 98):=by kernel_rfl
theorem aKL (w:World):(zeroValue 98).run Tryz.prog w=.ok (.pointer none) w:=by kernel_rfl
theorem jJ (nm:ByteArray) (hs:nm.size≤maxLen):keyOf Tryz.prog 9 (.string nm)=some (D.key nm):=WideMaps.keyOf_string_mk bT hs
section
variable {w:World} {b n:Nat} {fa:Nat→Nat} {l:D.NM}
theorem kF (h:w.ownsMap Tryz.prog 9 D.iM b n (D.datum fa l)) (nm:ByteArray) (hs:nm.size≤maxLen) :
  (Instr.lookup 91 (.map (some b)) (.string nm) false).run Tryz.prog w=.ok (D.kN fa (D.find l nm)) w:=by
 obtain⟨v,ps,hr,hv⟩:=h.lookup (string_keyed bT) wQ (aKL w) (zd:=.nil) (zp:=[]) rfl (jJ nm hs)
 rw[hr]
 rw[D.kL]at hv
 cases hf:D.find l nm with
 | none=>rw[hf]at hv;rw[D.aEE hv];rfl
 | some no=>rw[hf]at hv;rw[D.yI hv];rfl
theorem eQ (h:w.ownsMap Tryz.prog 9 D.iM b n (D.datum fa l)):w.ownsMap Tryz.prog 9 D.iM b l.length (D.datum fa l):=by
 obtain⟨es,cl,hb,F,hs,hD⟩:=h
 refine⟨es,cl,hb,F,?_,hD⟩
 have h1:=congrArg Maps.size hD
 unfold D.datum at h1
 rw[Maps.size_eq,Maps.size_eq,length_sorted]at h1
 simp at h1
 omega
end
theorem on_any (B:Nat) (M:DM) (s:D.Dsk) (nm:ByteArray) (A:Option Addr) (n c B0:Nat) (more:List ByteArray) (w:World) (hD:∀ u,w.grownBy u (ownB A c)→bU B M s u) (hsn:0≤s.n∧s.n≤1099511627776) (hfl:s.fails.length≤1099511627776) (hn:n≤1000) (hl:more.length=n) (hs:NSml (more++[nm]))
  (hrow:Row w B0 9 1 A n c (aC more)) (hB0:B0≤w.heap.size) :
  Calls Tryz.prog 112 #[.pointer (some ⟨M.d,0,none⟩),.string nm,.slice A n c] w (fun e w'=>e=.returned (.tuple #[D.kN M.fa (s.look nm more).2.2,.int .i64 (s.look nm more).2.1])∧∃ u,w.grownBy u (ownB A c)∧bU B M (s.look nm more).1 w'∧Stepped M s u M (s.look nm more).1 w'):=by
 have HD:=aH hD
 have HR:=aH hrow
 have hnm:nm.size≤1099511627776:=hs nm (by simp)
 have HLN:Hid ((more++[nm]).length=n+1):=aH (by simp [hl])
 have HBG:=aH (fun (A':Option Addr) (c':Nat) (u:World) (h:bU B M s u) (hx:Rd u A' (n+1) 1 (aC (more++[nm]))) (hA)=>uP B M s A' (n+1) c' (more++[nm]) u h hsn hfl (by omega) HLN.out hs hx hA)
 obtain⟨G,hG⟩:∃ G,s.look nm more=G:=⟨_,rfl⟩
 obtain⟨S1,hS1⟩:∃ S1,s.begin (more++[nm])=S1:=⟨_,rfl⟩
 have HG:Hid (G=if S1.2≠0 then (S1.1,S1.2,none) else match D.find S1.1.now nm with | none=>(S1.1,90,none) | some no=>(S1.1,0,some no)):=aH (by rw[← hG,← hS1];rfl)
 rw[hG]
 rw[hS1]at HBG
 clear hG hS1 hD hrow hl hs hsn hfl HLN
 go_enter Tryz.func112,Tryz.ntmps112
 go_wp2_with (at_builtin;refine aKJ _ rfl _ _ rfl B0 A n c more rfl (HR.out.alloc _) _ 1 1 [nm] rfl (aLH w nm) (by omega) (by simp;omega) ?_;intro A1 c1 w2 hr2 ha2)
 have HD2:Hid (w.grownBy w2 (ownB A c)):=aH (by
  have h1:=World.grownBy_alloc w (.cells #[.string nm] 9) (ownB A c)
  exact h1.trans ha2.grown)
 have HDu:=aH (HD.out w2 HD2.out)
 have hA1:0 < n+1→∀ a,A1=some a→a.block≠M.d:=by
  intro _ a ha
  have hc:=hr2.cap.1
  have ht:=hr2.tag (k:=a.block) (by unfold ownB;rw[if_neg (by omega),ha];rfl)
  exact ht.ne HDu.out.blk.tag (by decide)
 have HC:=aH (HBG.out A1 c1 w2 HDu.out hr2.rd hA1)
 clear hA1 hr2 ha2 HR HBG HD
 go_wp2_with fail
 refine HC.out.mono ?_
 rintro e w3 ⟨rfl,hd3,hs3⟩
 have HD3:=aH hd3
 have HS3:=aH hs3
 clear hd3 hs3 HC HDu
 obtain⟨s1,z⟩:=S1
 dsimp only at *
 by_cases hz:z=0
 ·subst hz
  rw[if_neg (by simp)]at HG
  obtain⟨y0,y1,y2,y3,y4,y5,y6,y7⟩:=HD3.out.cells
  have hlk:=kF HD3.out.now nm (by simp only[maxLen];omega)
  clear y1 y2 y3 y4 y5 y6 y7
  cases hf:D.find s1.now nm with
  | none =>
   rw[hf]at hlk HG
   dsimp only[D.kN]at hlk HG
   go_wp2
   go_ret2
   exact⟨by rw[HG.out];rfl,w2,HD2.out,by rw[HG.out];exact HD3.out,by rw[HG.out];exact HS3.out⟩
  | some no =>
   rw[hf]at hlk HG
   dsimp only[D.kN]at hlk HG
   go_wp2
   go_ret2
   exact⟨by rw[HG.out];rfl,w2,HD2.out,by rw[HG.out];exact HD3.out,by rw[HG.out];exact HS3.out⟩
 ·have hzb:(z==0)=false:=beq_eq_false_iff_ne.2 hz
  rw[if_pos hz]at HG
  go_wp2
  go_ret2
  exact⟨by rw[HG.out];rfl,w2,HD2.out,by rw[HG.out];exact HD3.out,by rw[HG.out];exact HS3.out⟩
end Go.Proofs.YthjeglnkgdpijaaGreatDoor
namespace Go.Proofs.YthjeglnkgdpijaaGreatDoor
open Go.RowKit
namespace M
structure BD where
 d:List UInt8
 f:List FD
 n:Int
 e:Int
def BD.bad (e:Int):BD:=⟨[],[],0,e⟩
def body (bs:List UInt8) (N:Nat) (k z:Int):BD :=
 if k=1 then (if (bs.length:Int) < N+z then .bad 0 else ⟨(bs.drop N).take z.toNat,[],N+z,0⟩)
 else if k=2 then (if (C.decode (bs.drop N)).e≠0∨(C.decode (bs.drop N)).n=0 then .bad (C.decode (bs.drop N)).e else ⟨(C.decode (bs.drop N)).d,(C.decode (bs.drop N)).f,N+((C.decode (bs.drop N)).n:Int),0⟩)
 else ⟨[],[],N+z,0⟩
end M
def qI (p:Nat) (w w':World):Prop:=∃ w1,Below w.heap.size w w1∧(w'=w1∨∃ x,w'=w1.setCell ⟨p,8,none⟩ x∨∃ y,w'=(w1.setCell ⟨p,8,none⟩ x).setCell ⟨p,9,none⟩ y)
section
variable {p:Nat} {w w':World}
theorem qI.of (h:Below w.heap.size w w'):qI p w w':=⟨w',h,.inl rfl⟩
theorem qI.one {w1:World} (h:Below w.heap.size w w1) (x:Value):qI p w (w1.setCell ⟨p,8,none⟩ x):=⟨w1,h,.inr ⟨x,.inl rfl⟩⟩
theorem qI.two {w1:World} (h:Below w.heap.size w w1) (x y:Value):qI p w ((w1.setCell ⟨p,8,none⟩ x).setCell ⟨p,9,none⟩ y):=⟨w1,h,.inr ⟨x,.inr ⟨y,rfl⟩⟩⟩
theorem qI.blk (h:qI p w w') {b:Nat} {cs:Array Value} {t:TypeId} (hb:Blk w b cs t) (hne:p≠b):Blk w' b cs t:=by
 obtain⟨w1,h1,rfl | ⟨x,rfl | ⟨y,rfl⟩⟩⟩:=h
 ·exact hb.below h1
 ·exact (hb.below h1).far 8 x hne
 ·exact ((hb.below h1).far 8 x hne).far 9 y hne
theorem qI.row (h:qI p w w') {base:Nat} {e:TypeId} {size n c:Nat} {A:Option Addr} {xs:List Value} {cs:Array Value} {t:TypeId} (hr:Row w base e size A n c xs) (hp:Blk w p cs t) (hne:t≠e):Row w' base e size A n c xs:=by
 obtain⟨w1,h1,rfl | ⟨x,rfl | ⟨y,rfl⟩⟩⟩:=h
 ·exact hr.below h1
 ·exact (hr.below h1).farT (hp.below h1) hne 8 x
 ·exact ((hr.below h1).farT (hp.below h1) hne 8 x).farT ((hp.below h1).set 8 x) hne 9 y
theorem qI.low (h:qI p w w') {B:Nat} {w0:World} (hl:Below B w0 w) (hs:B≤w.heap.size) (hB:B≤p):Below B w0 w':=by
 obtain⟨w1,h1,rfl | ⟨x,rfl | ⟨y,rfl⟩⟩⟩:=h
 ·exact aA hs hl h1
 ·exact aJ (aA hs hl h1) hB 8 x
 ·exact aJ (aJ (aA hs hl h1) hB 8 x) hB 9 y
end
section
variable {w:World} {b:Nat} {t:TypeId} {x0 x1 x2 x3 x4 x5 x6 x7 x8 x9:Value}
def ten (w:World) (b:Nat) (y0 y1 y2 y3 y4 y5 y6 y7 y8 y9:Value):World:=((((((((((w.setCell ⟨b,0,none⟩ y0).setCell ⟨b,1,none⟩ y1).setCell ⟨b,2,none⟩ y2).setCell ⟨b,3,none⟩ y3).setCell ⟨b,4,none⟩ y4).setCell ⟨b,5,none⟩ y5).setCell ⟨b,6,none⟩ y6).setCell ⟨b,7,none⟩ y7).setCell ⟨b,8,none⟩ y8).setCell ⟨b,9,none⟩ y9)
end
namespace M
structure MQ where
 m:ByteArray
 t:ByteArray
 v:Int
 fs:List FD
 d:List UInt8
 f:List FD
 n:Int
 e:Int
def MQ.bad (e:Int):MQ:=⟨⟨#[]⟩,⟨#[]⟩,0,[],[],[],0,e⟩
def whole (q:P.RQ) (b:BD):MQ:=if b.e≠0∨b.n=0 then .bad b.e else ⟨q.m,q.t,q.v,q.fs,b.d,b.f,b.n,0⟩
def aQF (bs:List UInt8) (q:P.RQ) (f:F.FR):MQ:=if f.e≠0 then .bad f.e else whole q (body bs q.n.toNat f.k f.n)
def request (bs:List UInt8):MQ:=if (P.request bs).e≠0∨(P.request bs).n=0 then .bad (P.request bs).e else aQF bs (P.request bs) (F.frame (P.request bs).v (P.request bs).fs 0)
end M
def aNN (w:World) (r:M.MQ) (e:Ending) (w':World):Prop :=
 ∃ A c D d T k,e=.returned (.tuple #[.agg #[.string r.m,.string r.t,.int .i64 r.v,.slice A r.fs.length c,.int .i64 0,.string ⟨#[]⟩,.int .i64 0,.slice none 0 0,.slice D r.d.length d,.slice T r.f.length k],.int .i64 r.n,.int .i64 r.e]) ∧
  Row w' w.heap.size 60 2 A r.fs.length c (aI r.fs)∧bQ w' w.heap.size D r.d.length d r.d∧Row w' w.heap.size 60 2 T r.f.length k (aI r.f)∧Below w.heap.size w w'
theorem aNN.bad {w w':World} {r:M.MQ} {code:Int} (hb:Below w.heap.size w w') (h:r=.bad code):aNN w r (.returned (.tuple #[.agg #[.string ⟨#[]⟩,.string ⟨#[]⟩,.int .i64 0,.slice none 0 0,.int .i64 0,.string ⟨#[]⟩,.int .i64 0,.slice none 0 0,.slice none 0 0,.slice none 0 0],.int .i64 0,.int .i64 code])) w':=by
 subst h
 exact⟨none,0,none,0,none,0,rfl,Row.none_ _ _ _ _,bQ.none_ _ _,Row.none_ _ _ _ _,hb⟩
def aKC (w:World) (r:M.BD) (e:Ending) (w':World):Prop :=
 ∃ D d T j,e=.returned (.tuple #[.slice D r.d.length d,.slice T r.f.length j,.int .i64 r.n,.int .i64 r.e])∧bQ w' w.heap.size D r.d.length d r.d∧Row w' w.heap.size 60 2 T r.f.length j (aI r.f)∧Below w.heap.size w w'
theorem aKC.bad {w w':World} {r:M.BD} {code:Int} (hb:Below w.heap.size w w') (h:r=.bad code):aKC w r (.returned (.tuple #[.slice none 0 0,.slice none 0 0,.int .i64 0,.int .i64 code])) w':=by
 subst h
 exact⟨none,0,none,0,rfl,bQ.none_ _ _,Row.none_ _ _ _ _,hb⟩
theorem Sep.apart {g c:Nat} {E:Option Addr} {m:Nat} (h:0 < m→∀ e,E=some e→e.block≠g):Sep (some ⟨g,0,none⟩) c E m:=fun hm kk e hk1 he=>by
 have:=h hm e he
 unfold ownB at hk1
 split at hk1
 ·cases hk1
 ·simp at hk1
  omega
end Go.Proofs.YthjeglnkgdpijaaGreatDoor
namespace Go.Proofs.YthjeglnkgdpijaaGreatDoor
namespace P
open T (Bs)
theorem aG2 (bs:Bs) (s:Nat):(jI bs s).length≤bs.length:=by
 unfold jI fZ
 rw[List.length_drop,List.length_take,List.length_drop]
 omega
theorem lX (bs:Bs):F.bulk (response bs).fs≤bs.length∧(response bs).r.size≤bs.length:=by
 have hp:=(kY _ [] (jI bs 0) (zA _) (zF _)).1
 have hb:=aG2 bs 0
 have hl:=aER bs 0
 have h0:F.bulk []=0:=rfl
 have hz:∀ e:Int,F.bulk (RS.bad e).fs≤bs.length∧(RS.bad e).r.size≤bs.length:=fun e=>⟨zF _,zF _⟩
 unfold response
 split
 ·exact hz _
 ·unfold aD9
  split
  ·exact hz _
  ·split
   ·exact hz _
   ·split
    ·exact hz _
    ·split
     ·exact hz _
     ·refine⟨?_,?_⟩
      ·show F.bulk (parse [] (jI bs 0)).1≤_
       omega
      ·show (B (behind (behind (oC bs 0)))).size≤_
       rw[aDX]
       have h1:=nD (behind (oC bs 0))
       have h2:=nD (oC bs 0)
       omega
end P
open Go.RowKit
namespace F
def headW:List UInt8:=[72,69,65,68]
def connW:List UInt8:=[67,79,78,78,69,67,84]
def bareR (s:Int) (method:ByteArray):Bool:=decide (L method=headW∨s=204∨s=304∨(100≤s∧s≤199)∨(L method=connW∧200≤s∧s≤299))
def aQG (s m:Int) (fs:List FD) (method:ByteArray):FR:=if bareR s method=true then ⟨0,0,0⟩ else frame m fs 3
end F
namespace M
structure MP where
 s:Int
 r:ByteArray
 v:Int
 fs:List FD
 d:List UInt8
 f:List FD
 n:Int
 e:Int
def MP.bad (e:Int):MP:=⟨0,⟨#[]⟩,0,[],[],[],0,e⟩
def cutE (b:Bool):Int:=if b then 80 else 0
def aPS (q:P.RS) (b:BD) (cut:Int):MP:=if b.e≠0 then .bad b.e else if b.n=0 then .bad cut else ⟨q.s,q.r,q.v,q.fs,b.d,b.f,b.n,0⟩
def closed (bs:List UInt8) (q:P.RS) (ended:Bool):MP:=if (65536:Int) < (bs.length:Int) - q.n then .bad 71 else if ended=true then ⟨q.s,q.r,q.v,q.fs,bs.drop q.n.toNat,[],bs.length,0⟩ else .bad 0
def aOX (bs:List UInt8) (q:P.RS) (f:F.FR) (ended:Bool):MP:=if f.e≠0 then .bad f.e else if f.k=3 then closed bs q ended else aPS q (body bs q.n.toNat f.k f.n) (cutE ended)
def response (bs:List UInt8) (method:ByteArray) (ended:Bool):MP :=
 if (P.response bs).e≠0 then .bad (P.response bs).e else if (P.response bs).n=0 then .bad (cutE ended) else aOX bs (P.response bs) (F.aQG (P.response bs).s (P.response bs).v (P.response bs).fs method) ended
end M
def aNM (w:World) (r:M.MP) (e:Ending) (w':World):Prop :=
 ∃ A c D d T k,e=.returned (.tuple #[.agg #[.string ⟨#[]⟩,.string ⟨#[]⟩,.int .i64 0,.slice none 0 0,.int .i64 r.s,.string r.r,.int .i64 r.v,.slice A r.fs.length c,.slice D r.d.length d,.slice T r.f.length k],.int .i64 r.n,.int .i64 r.e]) ∧
  Row w' w.heap.size 60 2 A r.fs.length c (aI r.fs)∧bQ w' w.heap.size D r.d.length d r.d∧Row w' w.heap.size 60 2 T r.f.length k (aI r.f)∧Below w.heap.size w w'
theorem aNM.bad {w w':World} {r:M.MP} {code:Int} (hb:Below w.heap.size w w') (h:r=.bad code):aNM w r (.returned (.tuple #[.agg #[.string ⟨#[]⟩,.string ⟨#[]⟩,.int .i64 0,.slice none 0 0,.int .i64 0,.string ⟨#[]⟩,.int .i64 0,.slice none 0 0,.slice none 0 0,.slice none 0 0],.int .i64 0,.int .i64 code])) w':=by
 subst h
 exact⟨none,0,none,0,none,0,rfl,Row.none_ _ _ _ _,bQ.none_ _ _,Row.none_ _ _ _ _,hb⟩
end Go.Proofs.YthjeglnkgdpijaaGreatDoor
