/- The walk of CopyEntry once more: its lists are typed rows of the call's own (turned from XObjK). The law CacheNewest walked. Two caches in one memory: a step of the one leaves the other as it is. Conditions: as each theorem states them. -/
import Derived.Test.YthjeglnkgdpijaaGreatDoorCacheT
set_option maxHeartbeats 2000000
set_option maxRecDepth 100000
namespace Go.Proofs.YthjeglnkgdpijaaGreatDoor
open Go.RowKit
theorem vK (A:Option Addr) (c:Nat) (bs:List UInt8) (w:World) (hn:bs.length≤1099511627776) (hx:Rd w A bs.length 1 (aB bs)) :
  Calls Tryz.prog 20 #[.slice A bs.length c] w (dN w 5 1 bs.length (aB bs)):=by
 have HX:=aH (hx.alloc (.cells #[] 5))
 clear hx
 go_enter Tryz.func20,Tryz.ntmps20
 go_wp2_with (at_builtin;refine aPP _ rfl (.tmp 5) (.tmp 6) rfl w.heap.size _ 0 0 [] rfl (Row.empty _ _ _ _ _) A bs.length c bs rfl HX.out (by omega) (by rw[bJ];omega) ?_;intro A1 c1 w1 hr1 ha1)
 have hb:=((zB w.heap.size w).alloc (zA _) (.cells #[] 5)).trans (ha1.below (Row.empty _ w.heap.size 5 1 _) (by rw[bJ];omega))
 have e:0+bs.length=bs.length:=Nat.zero_add _
 rw[e]at hr1
 go_ret
 exact⟨A1,c1,rfl,hr1,hb⟩
def aPL (k v:ByteArray) (s:Int) (r:ByteArray) (m:Int) (fs:List FD) (body:List UInt8) (asked got:Int) (w:World) (e:Ending) (w':World):Prop :=
 ∃ A c X d,e=.returned (.agg #[.string k,.string v,.int .i64 s,.string r,.int .i64 m,.slice A fs.length c,.slice X body.length d,.int .i64 asked,.int .i64 got])∧Row w' w.heap.size 60 2 A fs.length c (aI fs)∧Row w' w.heap.size 5 1 X body.length d (aB body)∧Below w.heap.size w w'
theorem vJ (k v:ByteArray) (s:Int) (r:ByteArray) (m:Int) (A:Option Addr) (cf:Nat) (fs:List FD) (X:Option Addr) (cb:Nat) (body:List UInt8) (asked got:Int) (w:World) (hn:fs.length≤1099511627776) (hbn:body.length≤1099511627776) (hx:Rd w A fs.length 2 (aI fs)) (hX:Rd w X body.length 1 (aB body)) :
  Calls Tryz.prog 12 #[.agg #[.string k,.string v,.int .i64 s,.string r,.int .i64 m,.slice A fs.length cf,.slice X body.length cb,.int .i64 asked,.int .i64 got]] w (aPL k v s r m fs body asked got w):=by
 have HCR:=aH (fun (u:World) (hu:Below w.heap.size w u)=>qE s m r A fs.length cf fs u rfl hn (hx.below hu))
 have HCB:=aH (fun (u:World) (hu:Below w.heap.size w u)=>vK X cb body u hbn (hX.below hu))
 have HK:=aH ((Blk.new w #[.string k,.string v,.int .i64 s,.string r,.int .i64 m,.slice A fs.length cf,.slice X body.length cb,.int .i64 asked,.int .i64 got] 41).alloc (.cells #[.string ⟨#[]⟩,.string ⟨#[]⟩,.int .i64 0,.string ⟨#[]⟩,.int .i64 0,.slice none 0 0,.slice none 0 0,.int .i64 0,.int .i64 0] 41))
 have HL:=aH (Blk.new (w.alloc (.cells #[.string k,.string v,.int .i64 s,.string r,.int .i64 m,.slice A fs.length cf,.slice X body.length cb,.int .i64 asked,.int .i64 got] 41)) #[.string ⟨#[]⟩,.string ⟨#[]⟩,.int .i64 0,.string ⟨#[]⟩,.int .i64 0,.slice none 0 0,.slice none 0 0,.int .i64 0,.int .i64 0] 41)
 have HB:=aH (((zB w.heap.size w).alloc (zA _) (.cells #[.string k,.string v,.int .i64 s,.string r,.int .i64 m,.slice A fs.length cf,.slice X body.length cb,.int .i64 asked,.int .i64 got] 41)).alloc (by rw[bJ];omega) (.cells #[.string ⟨#[]⟩,.string ⟨#[]⟩,.int .i64 0,.string ⟨#[]⟩,.int .i64 0,.slice none 0 0,.slice none 0 0,.int .i64 0,.int .i64 0] 41))
 have hz0:w.heap.size+2=((w.alloc (.cells #[.string k,.string v,.int .i64 s,.string r,.int .i64 m,.slice A fs.length cf,.slice X body.length cb,.int .i64 asked,.int .i64 got] 41)).alloc (.cells #[.string ⟨#[]⟩,.string ⟨#[]⟩,.int .i64 0,.string ⟨#[]⟩,.int .i64 0,.slice none 0 0,.slice none 0 0,.int .i64 0,.int .i64 0] 41)).heap.size:=by rw[bJ,bJ]
 rw[bJ]at HL
 clear hx hX
 go_enter Tryz.func12,Tryz.ntmps12
 obtain⟨x0,x1,x2,x3,x4,x5,x6,x7,x8⟩:=HK.out.cells9
 go_wp2_with fail
 clear x0 x1 x2 x3 x4 x5 x6 x7 x8
 refine (HCR.out _ HB.out).mono ?_
 rintro e w1 ⟨A1,c1,rfl,hr1,hb1⟩
 rw[← hz0]at hr1
 have HR1:=aH hr1
 have HK1:=aH (HK.out.below hb1)
 have HL1:=aH (HL.out.below hb1)
 have HB1:=aH (aA HB.out.size HB.out hb1)
 clear HK HL HB HCR hb1 hr1 hz0
 obtain⟨x0,x1,x2,x3,x4,x5,x6,x7,x8⟩:=HK1.out.cells9
 obtain⟨f2,f3,f4,f5⟩:_∧_∧_∧_:=⟨HK1.out.free 2,HK1.out.free 3,HK1.out.free 4,HK1.out.free 5⟩
 have HK2:Hid (Blk ((((w1.setCell ⟨w.heap.size,2,none⟩ (.int .i64 s)).setCell ⟨w.heap.size,3,none⟩ (.string r)).setCell ⟨w.heap.size,4,none⟩ (.int .i64 m)).setCell ⟨w.heap.size,5,none⟩ (.slice A1 fs.length c1)) w.heap.size #[.string k,.string v,.int .i64 s,.string r,.int .i64 m,.slice A1 fs.length c1,.slice X body.length cb,.int .i64 asked,.int .i64 got] 41):=aH ((((HK1.out.set 2 (.int .i64 s)).set 3 (.string r)).set 4 (.int .i64 m)).set 5 (.slice A1 fs.length c1))
 have y6:=HK2.out.cell 6 (v:=.slice X body.length cb) rfl
 have hne:w.heap.size≠w.heap.size+1:=by omega
 have HL2:Hid (Blk ((((w1.setCell ⟨w.heap.size,2,none⟩ (.int .i64 s)).setCell ⟨w.heap.size,3,none⟩ (.string r)).setCell ⟨w.heap.size,4,none⟩ (.int .i64 m)).setCell ⟨w.heap.size,5,none⟩ (.slice A1 fs.length c1)) (w.heap.size+1) #[.string ⟨#[]⟩,.string ⟨#[]⟩,.int .i64 0,.string ⟨#[]⟩,.int .i64 0,.slice none 0 0,.slice none 0 0,.int .i64 0,.int .i64 0] 41):=aH ((((HL1.out.far 2 (.int .i64 s) hne).far 3 (.string r) hne).far 4 (.int .i64 m) hne).far 5 (.slice A1 fs.length c1) hne)
 have HB2:Hid (Below w.heap.size w ((((w1.setCell ⟨w.heap.size,2,none⟩ (.int .i64 s)).setCell ⟨w.heap.size,3,none⟩ (.string r)).setCell ⟨w.heap.size,4,none⟩ (.int .i64 m)).setCell ⟨w.heap.size,5,none⟩ (.slice A1 fs.length c1))):=aH (aJ (aJ (aJ (aJ HB1.out (zA _) 2 _) (zA _) 3 _) (zA _) 4 _) (zA _) 5 _)
 have hl2:w.heap.size < w.heap.size+2:=by omega
 have HR2:Hid (Row ((((w1.setCell ⟨w.heap.size,2,none⟩ (.int .i64 s)).setCell ⟨w.heap.size,3,none⟩ (.string r)).setCell ⟨w.heap.size,4,none⟩ (.int .i64 m)).setCell ⟨w.heap.size,5,none⟩ (.slice A1 fs.length c1)) (w.heap.size+2) 60 2 A1 fs.length c1 (aI fs)):=aH ((((HR1.out.far (i:=2) hl2 (.int .i64 s)).far (i:=3) hl2 (.string r)).far (i:=4) hl2 (.int .i64 m)).far (i:=5) hl2 (.slice A1 fs.length c1))
 go_wp2_with fail
 clear x0 x1 x2 x3 x4 x5 x6 x7 x8 f2 f3 f4 f5 y6 HK1 HL1 HB1 HR1
 generalize ((((w1.setCell ⟨w.heap.size,2,none⟩ (.int .i64 s)).setCell ⟨w.heap.size,3,none⟩ (.string r)).setCell ⟨w.heap.size,4,none⟩ (.int .i64 m)).setCell ⟨w.heap.size,5,none⟩ (.slice A1 fs.length c1))=w2 at *
 refine (HCB.out _ HB2.out).mono ?_
 rintro e w3 ⟨X1,d1,rfl,hr3,hb3⟩
 have hz2:w.heap.size+1 < w2.heap.size:=HL2.out.lt
 have HR3:=aH (HR2.out.below hb3)
 have HX3:=aH (hr3.mono (base':=w.heap.size+2) (by omega))
 have HK3:=aH (HK2.out.below hb3)
 have HL3:=aH (HL2.out.below hb3)
 have HB3:=aH (aA HB2.out.size HB2.out hb3)
 clear HCB hr3 hb3 HK2 HL2 HB2 HR2 hz2
 have k6:=HK3.out.cell 6 (v:=.slice X body.length cb) rfl
 have f6:=HK3.out.free 6
 have HK4:Hid (Blk (w3.setCell ⟨w.heap.size,6,none⟩ (.slice X1 body.length d1)) w.heap.size #[.string k,.string v,.int .i64 s,.string r,.int .i64 m,.slice A1 fs.length c1,.slice X1 body.length d1,.int .i64 asked,.int .i64 got] 41):=aH (HK3.out.set 6 (.slice X1 body.length d1))
 have HL4:Hid (Blk (w3.setCell ⟨w.heap.size,6,none⟩ (.slice X1 body.length d1)) (w.heap.size+1) #[.string ⟨#[]⟩,.string ⟨#[]⟩,.int .i64 0,.string ⟨#[]⟩,.int .i64 0,.slice none 0 0,.slice none 0 0,.int .i64 0,.int .i64 0] 41):=aH (HL3.out.far 6 (.slice X1 body.length d1) hne)
 have HB4:Hid (Below w.heap.size w (w3.setCell ⟨w.heap.size,6,none⟩ (.slice X1 body.length d1))):=aH (aJ HB3.out (zA _) 6 _)
 have HR4:Hid (Row (w3.setCell ⟨w.heap.size,6,none⟩ (.slice X1 body.length d1)) (w.heap.size+2) 60 2 A1 fs.length c1 (aI fs)):=aH (HR3.out.farT HK3.out aNB 6 _)
 have HX4:Hid (Row (w3.setCell ⟨w.heap.size,6,none⟩ (.slice X1 body.length d1)) (w.heap.size+2) 5 1 X1 body.length d1 (aB body)):=aH (HX3.out.farT HK3.out aNA 6 _)
 obtain⟨x0,x1,x2,x3,x4,x5,x6,x7,x8⟩:=HK4.out.cells9
 obtain⟨y0,y1,y2,y3,y4,y5,y6,y7,y8⟩:=HL4.out.cells9
 obtain⟨g0,g1,g2,g3,g4,g5,g6,g7,g8⟩:_∧_∧_∧_∧_∧_∧_∧_∧_:=⟨HL4.out.free 0,HL4.out.free 1,HL4.out.free 2,HL4.out.free 3,HL4.out.free 4,HL4.out.free 5,HL4.out.free 6,HL4.out.free 7,HL4.out.free 8⟩
 go_wp2
 clear x0 x1 x2 x3 x4 x5 x6 x7 x8 y0 y1 y2 y3 y4 y5 y6 y7 y8 g0 g1 g2 g3 g4 g5 g6 g7 g8 k6 f6 HK3 HL3 HB3 HR3 HX3
 generalize (w3.setCell ⟨w.heap.size,6,none⟩ (.slice X1 body.length d1))=w4 at *
 obtain⟨z0,z1,z2,z3,z4,z5,z6,z7,z8⟩:=(HL4.out.set9 (.string k) (.string v) (.int .i64 s) (.string r) (.int .i64 m) (.slice A1 fs.length c1) (.slice X1 body.length d1) (.int .i64 asked) (.int .i64 got)).cells9
 unfold nine at z0 z1 z2 z3 z4 z5 z6 z7 z8
 refine bK (v:=.agg #[.string k,.string v,.int .i64 s,.string r,.int .i64 m,.slice A1 fs.length c1,.slice X1 body.length d1,.int .i64 asked,.int .i64 got]) (by simp [results,Tryz.results12,go_sem,z0,z1,z2,z3,z4,z5,z6,z7,z8]) rfl ?_
 exact⟨A1,c1,X1,d1,rfl,(HR4.out.farT9 HL4.out aNB (.string k) (.string v) (.int .i64 s) (.string r) (.int .i64 m) (.slice A1 fs.length c1) (.slice X1 body.length d1) (.int .i64 asked) (.int .i64 got)).mono (by omega),(HX4.out.farT9 HL4.out aNA (.string k) (.string v) (.int .i64 s) (.string r) (.int .i64 m) (.slice A1 fs.length c1) (.slice X1 body.length d1) (.int .i64 asked) (.int .i64 got)).mono (by omega),aK HB4.out (show w.heap.size≤w.heap.size+1 by omega) (.string k) (.string v) (.int .i64 s) (.string r) (.int .i64 m) (.slice A1 fs.length c1) (.slice X1 body.length d1) (.int .i64 asked) (.int .i64 got)⟩
theorem uF (p:EP) (w:World) (h1:p.E.fs.length≤1099511627776) (h2:p.E.body.length≤1099511627776) (h:ERd w p):Calls Tryz.prog 12 #[p.v] w (RetE w p.E):=by
 refine (vJ p.E.k p.E.v p.E.s p.E.r p.E.m p.A p.c p.E.fs p.X p.d p.E.body p.E.asked p.E.got w h1 h2 h.1 h.2).mono ?_
 rintro e w' ⟨A,c,X,d,rfl,q1,q2,q3⟩
 exact⟨⟨p.E,A,c,X,d⟩,rfl,rfl,⟨q1,q2⟩,q3⟩
open Go Go.Maps
namespace S
theorem bG.put_ok {n i u:Nat} {s:Sto} (h:bG n i u s) (hi:i+1≤100) (hu:u+110000≤1000000000) {E:O.Ent} (hE:iG E=0) (hid:(aV E).size≤4096) (hl:s.tab.length≤1) (hn:2≤n):(s.put E).2=0:=by
 unfold Sto.put
 rw[if_neg (by rw[hE];decide),if_neg (by omega)]
 have hul:s.used.length=n:=by rw[h.used,dY]
 cases hf:s.used.findIdx? (fun x=>decide (x=false)) with
 | none =>
  exfalso
  rw[List.findIdx?_eq_none_iff]at hf
  have hg:∀ m,m < n→∃ p∈s.tab,p.2=m:=fun m hm=>by
   have hm2:m < s.used.length:=by omega
   have h1:=hf _ (List.getElem_mem hm2)
   have h2:s.used.getD m false=true:=by
    simp [List.getD,hm2]
    simpa using h1
   rw[h.used]at h2
   exact ((marks_at n s.tab m).1 h2).2
  obtain⟨p,hp,e1⟩:=hg 0 (by omega)
  obtain⟨q,hq,e2⟩:=hg 1 (by omega)
  cases htab:s.tab with
  | nil=>rw[htab]at hp;cases hp
  | cons y r =>
   rw[htab]at hl hp hq
   have hr:r=[]:=by simpa using hl
   subst hr
   obtain rfl:=List.mem_singleton.1 hp
   obtain rfl:=List.mem_singleton.1 hq
   omega
 | some no =>
  dsimp only
  rw[List.findIdx?_eq_some_iff_getElem]at hf
  obtain⟨hnl,hnf,_⟩:=hf
  have hnv:s.used.getD no false=false:=by
   simp [List.getD,hnl]at hnf ⊢
   exact hnf
  exact (h.enter hi hu (E:=E) hE hid (no:=no) (by omega) (fun p hp e=>by
   have:=(marks_at n s.tab no).2 ⟨by omega,p,hp,e⟩
   rw[← h.used,hnv]at this
   cases this)).1
end S
namespace C
def great (n:Nat):S.Sto:=⟨S.born 1073741824,0,[],S.marks n []⟩
theorem aDH {n:Nat} (hn:n≤4096):start 1073741824 [] (-1) n=some (some (great n)):=by
 have hb:=(S.oM (room:=1073741824) (by decide)).1
 unfold start
 rw[if_neg (by omega),if_neg (by
  rintro (h | h | h | h)
  ·exact h ⟨by decide,by decide⟩
  ·omega
  ·exact absurd h (by decide)
  ·exact h (by show (S.steps (S.fresh 1073741824) S.bZ).2.2=0;rw[hb]))]
 show some (some (⟨(S.steps (S.fresh 1073741824) S.bZ).1,0,[],S.marks n []⟩:S.Sto))=_
 rw[hb]
 rfl
theorem lC {n:Nat} (hn:n≤4096):S.bG n 0 (0 * 521100) (great n)∧D.Fit (3+13 * 0) (great n).d:=⟨S.bG.start hn,S.aE4 ⟨by decide,by decide⟩⟩
theorem aI4 {n:Nat} (hn:n≤4096):Snd n 0 (great n) (abs ⟨some (great n),[],[]⟩):=⟨rfl,(lC hn).1,(lC hn).2,rfl,fun x F h=>by cases h⟩
def accept:ByteArray:=⟨#[97,99,99,101,112,116,10]⟩
def vU:List FD:=[((⟨#[86,97,114,121]⟩,⟨#[65,99,99,101,112,116]⟩):FD)]
def aDL (k:ByteArray) (b:Int) (body:List UInt8):O.Ent:=⟨k,accept,200,⟨#[]⟩,1,vU,body,0,b⟩
section
variable {key:ByteArray} {a b:Int} {body:List UInt8}
theorem aL9 (hk:key.size≠0) (hk2:key.size≤4000) (ha:0≤a) (hb:a≤253402300799):S.iG (ent key a)=0:=by
 have hok:Go.Proofs.YthjeglnkgdpijaaGreatDoor.okE key ⟨#[]⟩ 0 0 a=true:=by
  unfold Go.Proofs.YthjeglnkgdpijaaGreatDoor.okE lL
  have h7:(⟨#[]⟩:ByteArray).size=0:=rfl
  simp [hk,ha,hb,h7]
  omega
 exact if_pos (decide_eq_true ⟨by show F.fK 200 ⟨#[]⟩ 1 []=0;decide +kernel,hok⟩)
theorem aL8 (hk:key.size≠0) (hk2:key.size≤4000) (ha:0≤b) (hb:b≤253402300799) (hl:body.length≤60000):S.iG (aDL key b body)=0:=by
 have hok:Go.Proofs.YthjeglnkgdpijaaGreatDoor.okE key accept body.length 0 b=true:=by
  unfold Go.Proofs.YthjeglnkgdpijaaGreatDoor.okE lL
  have h7:accept.size=7:=rfl
  simp [hk,ha,hb,h7]
  omega
 exact if_pos (decide_eq_true ⟨by show F.fK 200 ⟨#[]⟩ 1 vU=0;decide +kernel,hok⟩)
theorem mO (E:O.Ent):(S.aV E).size=E.k.size+1+E.v.size:=by
 unfold S.aV
 rw[aQ,eP,eP,bC,bC,← aQ,← aQ]
 rfl
structure Two (key:ByteArray) (a b:Int) (body:List UInt8) (s1 s2:S.Sto):Prop where
 b1:Base s1
 b2:Base s2
 p1:(great 9).put (aDL key b body)=(s1,0)
 p2:s1.put (ent key a)=(s2,0)
 get1:s1.get (S.aV (aDL key b body))=some (aDL key b body)∧∀ x F,x≠S.aV (aDL key b body)→(great 9).get x=some F→s1.get x=some F
 get2:s2.get (S.aV (ent key a))=some (ent key a)∧∀ x F,x≠S.aV (ent key a)→s1.get x=some F→s2.get x=some F
 has:s2.get (S.aV (aDL key b body))=some (aDL key b body)∧∀ x F,s2.get x=some F→F=ent key a∨F=aDL key b body
theorem two (hk:key.size≠0) (hk2:key.size≤4000) (ha:0≤a) (hb:b≤253402300799) (hab:a < b) (hl:body.length≤60000):∃ s1 s2,Two key a b body s1 s2:=by
 have hs:=aI4 (n:=9) (by decide)
 have hi1:(S.aV (aDL key b body)).size≤4096:=by rw[mO];show key.size+1+7≤_;omega
 have hi2:(S.aV (ent key a)).size≤4096:=by rw[mO];show key.size+1+0≤_;omega
 have hne:S.aV (aDL key b body)≠S.aV (ent key a):=fun e=>by
  have:=congrArg ByteArray.size e
  rw[mO,mO]at this
  change key.size+1+7=key.size+1+0 at this
  omega
 have q1:=hs.keeps.put_ok (by decide) (by decide) (aL8 (b:=b) (body:=body) hk hk2 (by omega) hb hl) hi1 (zF _) (by decide)
 obtain⟨u1,u2⟩:=hs.puts (by decide) (aDL key b body)
 obtain⟨u3,u4,u5⟩:=u2 q1
 have hl1:=S.aH5 (great 9) (aDL key b body)
 have q2:=u3.put_ok (by decide) (by decide) (aL9 (a:=a) hk hk2 ha (by omega)) hi2 (by exact hl1) (by decide)
 have hs1:Snd 9 1 ((great 9).put (aDL key b body)).1 ⟨some ((great 9).put (aDL key b body)).1,fun _=>none,[]⟩:=⟨rfl,u3,u4,rfl,fun x F h=>by cases h⟩
 obtain⟨v1,v2⟩:=hs1.puts (by decide) (ent key a)
 obtain⟨v3,v4,v5⟩:=v2 q2
 refine⟨_,_,u1,v1,Prod.ext rfl q1,Prod.ext rfl q2,⟨by rw[u5,if_pos rfl],fun x F _ h=>by cases h⟩,⟨by rw[v5,if_pos rfl],fun x F hx h=>by rw[v5,if_neg hx];exact h⟩,⟨by rw[v5,if_neg hne,u5,if_pos rfl],fun x F h=>?_⟩⟩
 rw[v5]at h
 by_cases hx:x=S.aV (ent key a)
 ·rw[if_pos hx]at h
  exact .inl (Option.some.inj h).symm
 ·rw[if_neg hx,u5]at h
  by_cases hy:x=S.aV (aDL key b body)
  ·rw[if_pos hy]at h
   exact .inr (Option.some.inj h).symm
  ·rw[if_neg hy]at h
   cases h
end
end C
structure Pair (Z1:CM) (a1:CSt) (Z2:CM) (a2:CSt):Prop where
 foot:∀ k,Z1.foot a1 k→¬ Z2.foot a2 k
 one:∀ x∈a1.l,∀ k,ownB x.p.A x.p.c=some k∨ownB x.p.X x.p.d=some k→¬ Z2.foot a2 k
 two:∀ x∈a2.l,∀ k,ownB x.p.A x.p.c=some k∨ownB x.p.X x.p.d=some k→¬ Z1.foot a1 k
def jL (B1 r1 c1 B2 r2 c2:Nat) (P1 P2:C.Vw→Prop) (Q:EP→Prop) (u:World):Prop:=B1≤u.heap.size∧B2≤u.heap.size∧∃ Z1 a1 Z2 a2,Z1.c=c1∧Z2.c=c2∧CAt B1 r1 Z1 a1 u∧CAt B2 r2 Z2 a2 u∧Pair Z1 a1 Z2 a2∧P1 (C.abs a1)∧P2 (C.abs a2)∧∀ q,Q q→aHB (fun k=>Z1.foot a1 k∨Z2.foot a2 k) u q
def xO (u u':World):Prop:=∀ k cs T,T=43∨T=41→Blk u k cs T→Blk u' k cs T
section
variable {B room B1 r1 c1 B2 r2 c2:Nat} {P1 P1' P2:C.Vw→Prop} {Q Q':EP→Prop} {u u' w:World} {Z Z1 Z2 Z1':CM} {a a1 a2 a1':CSt} {s:S.Sto}
theorem CAt.lists (h:CAt B room Z a w) {x:It} (hx:x∈a.l) {k:Nat} (hk:ownB x.p.A x.p.c=some k∨ownB x.p.X x.p.d=some k):k < w.heap.size:=by
 have ho:=h.mem.own x hx
 rcases hk with hk | hk
 ·exact (ho.1.lt k hk).2
 ·exact (ho.2.lt k hk).2
theorem Pair.swap (h:Pair Z1 a1 Z2 a2):Pair Z2 a2 Z1 a1:=⟨fun k h1 h2=>h.foot k h2 h1,h.two,h.one⟩
theorem jL.swap (h:jL B1 r1 c1 B2 r2 c2 P1 P2 Q u):jL B2 r2 c2 B1 r1 c1 P2 P1 Q u:=by
 obtain⟨h1,h2,Z1,a1,Z2,a2,h3,h4,h5,h6,h7,h8,h9,h10⟩:=h
 exact⟨h2,h1,Z2,a2,Z1,a1,h4,h3,h6,h5,h7.swap,h9,h8,fun q hq=>⟨(h10 q hq).own,fun k hk hf=>(h10 q hq).off k hk hf.symm⟩⟩
theorem jL.below (h:jL B1 r1 c1 B2 r2 c2 P1 P2 Q u) (hb:Below u.heap.size u u'):jL B1 r1 c1 B2 r2 c2 P1 P2 Q u':=by
 obtain⟨h1,h2,Z1,a1,Z2,a2,h3,h4,h5,h6,h7,h8,h9,h10⟩:=h
 exact⟨bD h1 hb.size,bD h2 hb.size,Z1,a1,Z2,a2,h3,h4,h5.below hb,h6.below hb,h7,h8,h9,fun q hq=>(h10 q hq).below hb⟩
theorem jL.imp (h:jL B1 r1 c1 B2 r2 c2 P1 P2 Q u) (hP:∀ v,P1 v→P1' v) (hQ:∀ q,Q' q→Q q):jL B1 r1 c1 B2 r2 c2 P1' P2 Q' u:=by
 obtain⟨h1,h2,Z1,a1,Z2,a2,h3,h4,h5,h6,h7,h8,h9,h10⟩:=h
 exact⟨h1,h2,Z1,a1,Z2,a2,h3,h4,h5,h6,h7,hP _ h8,h9,fun q hq=>h10 q (hQ q hq)⟩
theorem jL.nine {b:Nat} {cs:Array Value} (h:jL B1 r1 c1 B2 r2 c2 P1 P2 Q u) (hk:Blk u b cs 41) (y0 y1 y2 y3 y4 y5 y6 y7 y8:Value):jL B1 r1 c1 B2 r2 c2 P1 P2 Q (Go.Proofs.YthjeglnkgdpijaaGreatDoor.nine u b y0 y1 y2 y3 y4 y5 y6 y7 y8):=by
 obtain⟨h1,h2,Z1,a1,Z2,a2,h3,h4,h5,h6,h7,h8,h9,h10⟩:=h
 have hz:=(dW (F:=fun k=>k=b) (w:=u) (b:=b) rfl y0 y1 y2 y3 y4 y5 y6 y7 y8).size
 exact⟨bD h1 hz,bD h2 hz,Z1,a1,Z2,a2,h3,h4,h5.entry9 hk y0 y1 y2 y3 y4 y5 y6 y7 y8,h6.entry9 hk y0 y1 y2 y3 y4 y5 y6 y7 y8,h7,h8,h9,fun q hq=>(h10 q hq).nine hk.tag y0 y1 y2 y3 y4 y5 y6 y7 y8⟩
theorem xO.refl (u:World):xO u u:=fun _ _ _ _ h=>h
theorem CAt.offs2 (h:CAt B room Z a w) {k:Nat} (hk:Z.foot a k):aQ1 w k:=fun T ht =>
 ⟨fun e=>(by subst e;exact h.off ht (by decide) (by decide) (by decide) hk),fun e=>(by subst e;exact h.off ht (by decide) (by decide) (by decide) hk),fun e=>(by subst e;exact h.off ht (by decide) (by decide) (by decide) hk)⟩
theorem jL.step (hB1:B1≤u.heap.size) (hB2:B2≤u.heap.size) (h3:Z1.c=c1) (h4:Z2.c=c2) (h5:CAt B1 r1 Z1 a1 u) (h6:CAt B2 r2 Z2 a2 u) (h7:Pair Z1 a1 Z2 a2) (h9:P2 (C.abs a2)) (h10:∀ q,Q q→aHB (fun k=>Z1.foot a1 k∨Z2.foot a2 k) u q)
  (hz:Z1'.c=Z1.c) (hc:CAt B1 r1 Z1' a1' u') (hw:aJ8 (Z1.foot a1) u (Z1'.foot a1') u' a1.l a1'.l) (hP:P1' (C.abs a1')) (hn:∀ q,Q' q→Q q∨(gB u' u.heap.size q∧aHB (Z1'.foot a1') u' q)):jL B1 r1 c1 B2 r2 c2 P1' P2 Q' u'∧xO u u':=by
 refine⟨⟨bD hB1 hw.size,bD hB2 hw.size,Z1',a1',Z2,a2,hz.trans h3,h4,hc,h6.beside hw.1 (fun k hk=>⟨h5.offs2 hk,h7.foot k hk,fun e=>?_,fun x hx j hj e=>?_⟩),⟨fun k hk hf=>?_,fun x hx k hk hf=>?_,fun x hx k hk hf=>?_⟩,hP,h9,fun q hq=>?_⟩,fun k cs T hT hk=>hw.blk hk (fun hf=>?_)⟩
 ·exact h5.off h6.blk.tag (by decide) (by decide) (by decide) (e ▸ hk)
 ·exact h7.two x hx j hj (e ▸ hk)
 ·rcases hw.foot k hk with h | h
  ·exact h7.foot k h hf
  ·have:=h6.lt hf;omega
 ·rcases hw.newer x hx with h | h
  ·exact h7.one x h k hk hf
  ·have:=h6.lt hf;have:=h k hk;omega
 ·rcases hw.foot k hf with h | h
  ·exact h7.two x hx k hk h
  ·have:=h6.lists hx hk;omega
 ·rcases hn q hq with h | ⟨h,ho⟩
  ·have ho:=h10 q h
   have hl:∀ k,ownB q.A q.c=some k∨ownB q.X q.d=some k→k < u.heap.size:=fun k hk=>hk.elim (fun hk=>(ho.own.1.lt k hk).2) (fun hk=>(ho.own.2.lt k hk).2)
   refine⟨⟨hw.row ho.own.1 (fun k hk hf=>ho.off k (.inl hk) (.inl hf)),hw.row ho.own.2 (fun k hk hf=>ho.off k (.inr hk) (.inl hf))⟩,fun k hk hf=>?_⟩
   rcases hf with hf | hf
   ·rcases hw.foot k hf with h | h
    ·exact ho.off k hk (.inl h)
    ·have:=hl k hk;omega
   ·exact ho.off k hk (.inr hf)
  ·refine⟨ho.own,fun k hk hf=>hf.elim (ho.off k hk) (fun hf=>?_)⟩
   have h1:=h6.lt hf
   rcases hk with hk | hk
   ·have:=(h.1.lt k hk).1;omega
   ·have:=(h.2.lt k hk).1;omega
 ·rcases hT with rfl | rfl
  ·exact h5.off hk.tag (by decide) (by decide) (by decide) hf
  ·exact h5.offE hk hf
end
namespace C
def fnd (s:S.Sto) (key:ByteArray) (ask:List FD):Option (ByteArray × O.Ent):=pick ⟨some s,[],[]⟩ key ask (aU (C.ids ⟨some s,[],[]⟩) key)
theorem bV.bare {s:S.Sto} {v:Vw} (h:bV s v):bV s (abs ⟨some s,[],[]⟩):=⟨h.base,rfl,rfl,fun _ _ h=>by cases h⟩
def prg (s:S.Sto) (key:ByteArray):Vw × Nat × Int:=(abs ⟨some s,[],[]⟩).purge key (aU (setB s.ids) key)
theorem Snd.prg {n i:Nat} {s:S.Sto} {v:Vw} (h:Snd n i s v) (hb:i+s.tab.length≤100) (key:ByteArray) :
  ∃ s' i',S.bG n i' (i' * 521100) s'∧D.Fit (3+13 * i') s'.d∧i'+s'.tab.length≤i+s.tab.length∧∀ v1,bV s v1→(v1.purge key (aU (setB s.ids) key)).2=(prg s key).2∧bV s' (v1.purge key (aU (setB s.ids) key)).1:=by
 have hi:i≤100:=by omega
 have hv0:=Snd.of0 (h.s0 hi).bare h.keeps h.fit
 obtain⟨s',i',c',f',u1,u2,e1,e2,k1,k2,hb2,_⟩:=Snd.purge2 key (aU (setB s.ids) key) 0 0 hv0 hv0 hb
 refine⟨s',i',k1.keeps,k1.fit,hb2,fun v1 h1=>?_⟩
 obtain⟨s3,i3,c3,f3,u3,u4,e3,e4,k3,k4,hb3,_⟩:=Snd.purge2 key (aU (setB s.ids) key) 0 0 hv0 (Snd.of0 h1 h.keeps h.fit) hb
 have e5:(u1,c',f')=(u3,c3,f3):=e1.symm.trans e3
 have e6:s'=s3:=Option.some.inj (k1.st.symm.trans ((congrArg (fun x:Vw × Nat × Int=>x.1.s) e5).trans k3.st))
 subst e6
 have e7:v1.purge key (aU (setB s.ids) key)=(u4,c3,f3):=e4
 have e8:C.prg s key=(u3,c3,f3):=e3
 rw[e7,e8]
 exact⟨rfl,k4.s0 (by omega)⟩
end C
section
variable {B1 r1 c1 B2 r2 c2:Nat} {P2:C.Vw→Prop} {Q:EP→Prop} {u:World} {s:S.Sto}
theorem jZ (key:ByteArray) (Y:Option Addr) (cy:Nat) (ask:List FD) (h:jL B1 r1 c1 B2 r2 c2 (C.bV s) P2 Q u) (hk:key.size≤1048576) (hb:F.bulk ask≤1048576) (hy:Rd u Y ask.length 2 (aI ask)) (hT:∀ w,Below B1 u w→Tabs w) :
  Calls Tryz.prog 13 #[.pointer (some ⟨c1,0,none⟩),.string key,.slice Y ask.length cy] u (fun e u'=>∃ q:EP,e=.returned (.tuple #[q.v,.bool (C.fnd s key ask).isSome])∧q.E=((C.fnd s key ask).map (·.2)).getD O.Ent.zero∧jL B1 r1 c1 B2 r2 c2 (C.bV s) P2 (fun x=>Q x∨x=q) u'∧xO u u'∧Below B1 u u'):=by
 obtain⟨h1,h2,Z1,a1,Z2,a2,rfl,h4,h5,h6,h7,h8,h9,h10⟩:=h
 have e:C.pick a1 key ask (C.aU (C.ids a1) key)=C.fnd s key ask:=h8.same h8.bare key ask
 refine (nM B1 r1 Z1 a1 s key Y cy ask u h5 h8 hk hb hy hT h1).mono ?_
 rintro e' u' ⟨q,a',rfl,hq,ho,hc,hw,hs,hbe,hn⟩
 rw[e]at hq ⊢
 obtain⟨r1',r2'⟩:=jL.step (Q':=fun x=>Q x∨x=q) h1 h2 rfl h4 h5 h6 h7 h9 h10 rfl hc hw hs (fun x hx=>hx.imp id (fun e=>by subst e;exact⟨hn,ho⟩))
 exact⟨q,rfl,hq,r1',r2',hbe⟩
theorem wC {u0:World} (p:EP) (h:jL B1 r1 c1 B2 r2 c2 (C.bV s) P2 Q u0) (hu:Below u0.heap.size u0 u) (hp:gB u u0.heap.size p) (hb:C.Base (s.put p.E).1) (hget:(s.put p.E).2=0→(s.put p.E).1.get (S.aV p.E)=some p.E∧∀ x F,x≠S.aV p.E→s.get x=some F→(s.put p.E).1.get x=some F) (hz:p.lim) (hT:∀ w,Below B1 u w→Tabs w) :
  Calls Tryz.prog 11 #[.pointer (some ⟨c1,0,none⟩),p.v] u (fun e u'=>e=.returned (.int .i64 (s.put p.E).2)∧jL B1 r1 c1 B2 r2 c2 (fun v=>(s.put p.E).2=0→C.bV (s.put p.E).1 v) P2 Q u'∧xO u u'∧Below B1 u u'):=by
 have hk:=h.below hu
 obtain⟨h1,h2,Z1,a1,Z2,a2,rfl,h4,h5,h6,h7,h8,h9,h10⟩:=h
 refine (rY B1 r1 u0.heap.size Z1 a1 s p u (h5.below hu) h8 hb hget hp (fun k hk=>h5.lt hk) hz hT (bD h1 hu.size)).mono ?_
 rintro e u' ⟨rfl,hbe,Z',a',hz',hc,hw,hs⟩
 obtain⟨r1',r2'⟩:=jL.step (P1':=fun v=>(s.put p.E).2=0→C.bV (s.put p.E).1 v) (Q':=Q) (bD h1 hu.size) (bD h2 hu.size) rfl h4 (h5.below hu) (h6.below hu) h7 h9 (fun q hq=>(h10 q hq).below hu) hz' hc hw hs (fun x hx=>.inl hx)
 exact⟨rfl,r1',r2',hbe⟩
theorem rJ {n i:Nat} {v:C.Vw} {s':S.Sto} (key:ByteArray) (h:jL B1 r1 c1 B2 r2 c2 (C.bV s) P2 Q u) (hv:C.Snd n i s v) (hb:i+s.tab.length≤100) (hs':∀ v1,C.bV s v1→(v1.purge key (C.aU (setB s.ids) key)).2=(C.prg s key).2∧C.bV s' (v1.purge key (C.aU (setB s.ids) key)).1) (hk:key.size≤1048576) (hT:∀ w,Below B1 u w→Tabs w) :
  Calls Tryz.prog 10 #[.pointer (some ⟨c1,0,none⟩),.string key] u (fun e u'=>e=.returned (.tuple #[.int .i64 (C.prg s key).2.1,.int .i64 (C.prg s key).2.2])∧jL B1 r1 c1 B2 r2 c2 (C.bV s') P2 Q u'∧xO u u'∧Below B1 u u'):=by
 obtain⟨h1,h2,Z1,a1,Z2,a2,rfl,h4,h5,h6,h7,h8,h9,h10⟩:=h
 have hsd:=C.Snd.of0 h8 hv.keeps hv.fit
 refine (rZ B1 r1 Z1 a1 key u h5 hk (fun k _=>hsd.purging hb key _) hT h1).mono ?_
 rintro e u' ⟨Z',a',hz',rfl,hc,hw,ha,hbe⟩
 rw[h8.all]at ha ⊢
 obtain⟨q1,q2⟩:=hs' _ h8
 rw[← ha]at q2
 obtain⟨r1',r2'⟩:=jL.step (Q':=Q) h1 h2 rfl h4 h5 h6 h7 h9 h10 hz' hc hw q2 (fun x hx=>.inl hx)
 refine⟨?_,r1',r2',hbe⟩
 rw[q1]
theorem aAF (h:jL B1 r1 c1 B2 r2 c2 (C.bV s) P2 Q u):Calls Tryz.prog 18 #[.pointer (some ⟨c1,0,none⟩)] u (dN u 9 1 (setB s.ids).length (aC (setB s.ids))):=by
 obtain⟨h1,h2,Z1,a1,Z2,a2,rfl,h4,h5,h6,h7,h8,h9,h10⟩:=h
 have hst:a1.s=some s:=h8.st
 rw[← h8.ids]
 exact jW B1 r1 Z1 a1 2000 u h5 (fun s2 hs2=>by
  obtain rfl:s=s2:=Option.some.inj (hst.symm.trans hs2)
  exact h8.base.fine)
end
def puts (w:World) (b:Nat):Nat→List Value→World
 | _,[]=>w
 | i,v::l=>puts (w.setCell ⟨b,i,none⟩ v) b (i+1) l
theorem xM {B b:Nat} {a:World} (hb:B≤b):∀ (l:List Value) (i:Nat) {w:World},Below B a w→Below B a (puts w b i l)
 | [],_,_,h=>h
 | v::l,i,_,h=>xM hb l (i+1) (aJ h hb i v)
theorem Blk.puts {b:Nat} {t:TypeId}:∀ (l pre mid:List Value) {w:World},Blk w b (pre++mid).toArray t→mid.length=l.length→Blk (Go.Proofs.YthjeglnkgdpijaaGreatDoor.puts w b pre.length l) b (pre++l).toArray t
 | [],pre,mid,_,h,e=>by
  obtain rfl:mid=[]:=List.length_eq_zero_iff.1 e
  exact h
 | v::l,pre,[],_,_,e=>by cases e
 | v::l,pre,m::mid,_,h,e=>by
  have h1:=h.set pre.length v
  have h2:(pre++m::mid).toArray.setIfInBounds pre.length v=((pre++[v])++mid).toArray:=by simp
  rw[h2]at h1
  have h3:=Blk.puts l (pre++[v]) mid h1 (by simpa using e)
  rw[bC,List.append_assoc]at h3
  exact h3
end Go.Proofs.YthjeglnkgdpijaaGreatDoor
