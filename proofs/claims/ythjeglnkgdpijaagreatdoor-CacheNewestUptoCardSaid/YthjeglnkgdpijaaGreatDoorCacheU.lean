/- The law CacheNewest walked (printed by gen/cacheu.py). Conditions: a body of at most 2^40 bytes; the library's tables. -/
import Derived.Test.YthjeglnkgdpijaaGreatDoorZ08
set_option maxHeartbeats 8000000
set_option maxRecDepth 100000
namespace Go.Proofs.YthjeglnkgdpijaaGreatDoor
open Go Go.RowKit Go.Maps
namespace S
theorem Keeps.put_ok {n i u:Nat} {s:Sto} (h:Keeps n i u s) (hi:i+1≤100) (hu:u+110000≤1000000000) {E:O.Ent} (hE:encE E=0) (hid:(idOf E).size≤4096) (hl:s.tab.length≤1) (hn:2≤n):(s.put E).2=0:=by
 unfold Sto.put
 rw[if_neg (by rw[hE];decide),if_neg (by omega)]
 have hul:s.used.length=n:=by rw[h.used,marks_len]
 cases hf:s.used.findIdx? (fun x=>decide (x=false)) with
 | none =>
  exfalso
  rw[List.findIdx?_eq_none_iff]at hf
  have hg:∀ m,m < n→∃ p∈s.tab,p.2=m:=fun m hm=>by
   have hm2:m < s.used.length:=by omega
   have h1:=hf _ (List.getElem_mem hm2)
   have h2:s.used.getD m false=true:=by
    simp [List.getD,hm2]
    simpa using h1
   rw[h.used]at h2
   exact ((marks_at n s.tab m).1 h2).2
  obtain⟨p,hp,e1⟩:=hg 0 (by omega)
  obtain⟨q,hq,e2⟩:=hg 1 (by omega)
  cases htab:s.tab with
  | nil=>rw[htab]at hp;cases hp
  | cons y r =>
   rw[htab]at hl hp hq
   have hr:r=[]:=by simpa using hl
   subst hr
   obtain rfl:=List.mem_singleton.1 hp
   obtain rfl:=List.mem_singleton.1 hq
   omega
 | some no =>
  dsimp only
  rw[List.findIdx?_eq_some_iff_getElem]at hf
  obtain⟨hnl,hnf,_⟩:=hf
  have hnv:s.used.getD no false=false:=by
   simp [List.getD,hnl]at hnf ⊢
   exact hnf
  exact (h.enter hi hu (E:=E) hE hid (no:=no) (by omega) (fun p hp e=>by
   have:=(marks_at n s.tab no).2 ⟨by omega,p,hp,e⟩
   rw[← h.used,hnv]at this
   cases this)).1
end S
namespace C
def great (n:Nat):S.Sto:=⟨S.born 1073741824,0,[],S.marks n []⟩
theorem great_start {n:Nat} (hn:n≤4096):start 1073741824 [] (-1) n=some (some (great n)):=by
 have hb:=(S.born_facts (room:=1073741824) (by decide)).1
 unfold start
 rw[if_neg (by omega),if_neg (by
  rintro (h | h | h | h)
  ·exact h ⟨by decide,by decide⟩
  ·omega
  ·exact absurd h (by decide)
  ·exact h (by show (S.steps (S.fresh 1073741824) S.firsts).2.2=0;rw[hb]))]
 show some (some (⟨(S.steps (S.fresh 1073741824) S.firsts).1,0,[],S.marks n []⟩:S.Sto))=_
 rw[hb]
 rfl
theorem great_keeps {n:Nat} (hn:n≤4096):S.Keeps n 0 (0 * 521100) (great n)∧D.Fit (3+13 * 0) (great n).d:=⟨S.Keeps.start hn,S.born_fit ⟨by decide,by decide⟩⟩
theorem great_snd {n:Nat} (hn:n≤4096):Snd n 0 (great n) (abs ⟨some (great n),[],[]⟩):=⟨rfl,(great_keeps hn).1,(great_keeps hn).2,rfl,fun x F h=>by cases h⟩
def accept:ByteArray:=⟨#[97,99,99,101,112,116,10]⟩
def varyAccept:List FD:=[((⟨#[86,97,114,121]⟩,⟨#[65,99,99,101,112,116]⟩):FD)]
def ask1:List FD:=[((⟨#[65,99,99,101,112,116]⟩,⟨#[120]⟩):FD)]
def entY (k:ByteArray) (b:Int) (body:List UInt8):O.Ent:=⟨k,accept,200,⟨#[]⟩,1,varyAccept,body,0,b⟩
theorem names_vary:V.names varyAccept=some [⟨#[97,99,99,101,112,116]⟩]:=by
 unfold V.names
 rw[show F.tokens varyAccept V.vary=[⟨#[97,99,99,101,112,116]⟩] by decide +kernel,setB_one]
 rfl
theorem entY_none (k:ByteArray) (b:Int) (body:List UInt8):V.matches (entY k b body) []=true:=by
 unfold V.matches
 rw[show (entY k b body).fs=varyAccept from rfl,names_vary]
 show decide (_=accept)=true
 decide +kernel
theorem entY_ask (k:ByteArray) (b:Int) (body:List UInt8):V.matches (entY k b body) ask1=false:=by
 unfold V.matches
 rw[show (entY k b body).fs=varyAccept from rfl,names_vary]
 show decide (_=accept)=false
 decide +kernel
section
variable {key:ByteArray} {a b:Int} {body:List UInt8}
theorem entX_enc (hk:key.size≠0) (hk2:key.size≤4000) (ha:0≤a) (hb:a≤253402300799):S.encE (ent key a)=0:=by
 have hok:Go.Proofs.YthjeglnkgdpijaaGreatDoor.okE key ⟨#[]⟩ 0 0 a=true:=by
  unfold Go.Proofs.YthjeglnkgdpijaaGreatDoor.okE timeB
  have h7:(⟨#[]⟩:ByteArray).size=0:=rfl
  simp [hk,ha,hb,h7]
  omega
 exact if_pos (decide_eq_true ⟨by show F.respE 200 ⟨#[]⟩ 1 []=0;decide +kernel,hok⟩)
theorem entY_enc (hk:key.size≠0) (hk2:key.size≤4000) (ha:0≤b) (hb:b≤253402300799) (hl:body.length≤60000):S.encE (entY key b body)=0:=by
 have hok:Go.Proofs.YthjeglnkgdpijaaGreatDoor.okE key accept body.length 0 b=true:=by
  unfold Go.Proofs.YthjeglnkgdpijaaGreatDoor.okE timeB
  have h7:accept.size=7:=rfl
  simp [hk,ha,hb,h7]
  omega
 exact if_pos (decide_eq_true ⟨by show F.respE 200 ⟨#[]⟩ 1 varyAccept=0;decide +kernel,hok⟩)
theorem idOf_size (E:O.Ent):(S.idOf E).size=E.k.size+1+E.v.size:=by
 unfold S.idOf
 rw[L_size,L_append,L_append,List.length_append,List.length_append,← L_size,← L_size]
 rfl
structure Two (key:ByteArray) (a b:Int) (body:List UInt8) (s1 s2:S.Sto):Prop where
 b1:Base s1
 b2:Base s2
 p1:(great 9).put (entY key b body)=(s1,0)
 p2:s1.put (ent key a)=(s2,0)
 get1:s1.get (S.idOf (entY key b body))=some (entY key b body)∧∀ x F,x≠S.idOf (entY key b body)→(great 9).get x=some F→s1.get x=some F
 get2:s2.get (S.idOf (ent key a))=some (ent key a)∧∀ x F,x≠S.idOf (ent key a)→s1.get x=some F→s2.get x=some F
 has:s2.get (S.idOf (entY key b body))=some (entY key b body)∧∀ x F,s2.get x=some F→F=ent key a∨F=entY key b body
theorem two (hk:key.size≠0) (hk2:key.size≤4000) (ha:0≤a) (hb:b≤253402300799) (hab:a < b) (hl:body.length≤60000):∃ s1 s2,Two key a b body s1 s2:=by
 have hs:=great_snd (n:=9) (by decide)
 have hi1:(S.idOf (entY key b body)).size≤4096:=by rw[idOf_size];show key.size+1+7≤_;omega
 have hi2:(S.idOf (ent key a)).size≤4096:=by rw[idOf_size];show key.size+1+0≤_;omega
 have hne:S.idOf (entY key b body)≠S.idOf (ent key a):=fun e=>by
  have:=congrArg ByteArray.size e
  rw[idOf_size,idOf_size]at this
  change key.size+1+7=key.size+1+0 at this
  omega
 have q1:=hs.keeps.put_ok (by decide) (by decide) (entY_enc (b:=b) (body:=body) hk hk2 (by omega) hb hl) hi1 (Nat.zero_le _) (by decide)
 obtain⟨u1,u2⟩:=hs.puts (by decide) (entY key b body)
 obtain⟨u3,u4,u5⟩:=u2 q1
 have hl1:=S.put_len (great 9) (entY key b body)
 have q2:=u3.put_ok (by decide) (by decide) (entX_enc (a:=a) hk hk2 ha (by omega)) hi2 (by exact hl1) (by decide)
 have hs1:Snd 9 1 ((great 9).put (entY key b body)).1 ⟨some ((great 9).put (entY key b body)).1,fun _=>none,[]⟩:=⟨rfl,u3,u4,rfl,fun x F h=>by cases h⟩
 obtain⟨v1,v2⟩:=hs1.puts (by decide) (ent key a)
 obtain⟨v3,v4,v5⟩:=v2 q2
 refine⟨_,_,u1,v1,Prod.ext rfl q1,Prod.ext rfl q2,⟨by rw[u5,if_pos rfl],fun x F _ h=>by cases h⟩,⟨by rw[v5,if_pos rfl],fun x F hx h=>by rw[v5,if_neg hx];exact h⟩,⟨by rw[v5,if_neg hne,u5,if_pos rfl],fun x F h=>?_⟩⟩
 rw[v5]at h
 by_cases hx:x=S.idOf (ent key a)
 ·rw[if_pos hx]at h
  exact .inl (Option.some.inj h).symm
 ·rw[if_neg hx,u5]at h
  by_cases hy:x=S.idOf (entY key b body)
  ·rw[if_pos hy]at h
   exact .inr (Option.some.inj h).symm
  ·rw[if_neg hy]at h
   cases h
theorem own_begin {s:S.Sto} {c:CSt} {E:O.Ent} (h:Snd0 s (abs c)) (hg:s.get (S.idOf E)=some E) (he:E.k=key):S.idOf E∈begin_ (C.ids c) key:=by
 rw[h.ids]
 refine List.mem_filter.2 ⟨mem_setB.2 ((h.base.gets _).2 (by rw[hg];rfl)),?_⟩
 unfold other
 rw[Bool.not_not]
 unfold S.idOf
 rw[L_append,L_append,he]
 show Lib.hasPrefix (L key++[10]++L E.v) (L key++[10])=true
 rw[← Lib.hasPrefix_of_take,List.take_left]
 simp
theorem new_find1 {s1 s2:S.Sto} {c:CSt} (h2:Two key a b body s1 s2) (hab:a < b) (h:Snd0 s2 (abs c)):∃ id,pick c key [] (begin_ (C.ids c) key)=some (id,entY key b body):=by
 have hY:Fit1 c key [] (S.idOf (entY key b body)) (entY key b body):=⟨(h.entry2 _).trans h2.has.1,rfl,entY_none _ _ _⟩
 have hm:=own_begin h h2.has.1 rfl
 rcases pick_spec c key [] (begin_ (C.ids c) key) with ⟨_,h3⟩ | ⟨id,_,E,h4,h5,h6⟩
 ·exact absurd hY (h3 _ hm _)
 ·have h7:=h6 _ hm _ hY
  rcases h2.has.2 id E ((h.entry2 id).symm.trans h5.1) with rfl | rfl
  ·exact absurd h7 (by show ¬ b≤a;omega)
  ·exact⟨id,h4⟩
theorem new_find2 {s1 s2:S.Sto} {c:CSt} (h2:Two key a b body s1 s2) (h:Snd0 s2 (abs c)):∃ id,pick c key ask1 (begin_ (C.ids c) key)=some (id,ent key a):=by
 have hX:Fit1 c key ask1 (S.idOf (ent key a)) (ent key a):=⟨(h.entry2 _).trans h2.get2.1,rfl,matches_bare rfl rfl _⟩
 have hm:=own_begin h h2.get2.1 rfl
 rcases pick_spec c key ask1 (begin_ (C.ids c) key) with ⟨_,h3⟩ | ⟨id,_,E,h4,h5,_⟩
 ·exact absurd hX (h3 _ hm _)
 ·rcases h2.has.2 id E ((h.entry2 id).symm.trans h5.1) with rfl | rfl
  ·exact⟨id,h4⟩
  ·have:=h5.2.2
   rw[entY_ask]at this
   cases this
end
end C
theorem cacheNewest_any (key:ByteArray) (a b:Int) (A0:Option Addr) (c0:Nat) (body:List UInt8) (mem:Int) (w:World) (hbl:body.length≤1099511627776) (hx:Rd w A0 body.length 1 (bcells body)) (ht:Tabs w) :
  Calls Tryz.prog 5 #[.string key,.int .i64 a,.int .i64 b,.slice A0 body.length c0,.int .i64 mem] w (RetB w true):=by
 have HAL:=Lib.hid (cacheAlive_any w ht)
 have HTB:=Lib.hid ht
 have HX:=Lib.hid hx
 clear ht hx
 obtain⟨n,hn⟩:∃ n,body.length=n:=⟨_,rfl⟩
 have HN:=Lib.hid hn
 rw[hn]at HX hbl ⊢
 clear hn
 by_cases hk0:key.size=0
 ·obtain rfl:key=⟨#[]⟩:=empty_of_size hk0
  clear hk0
  go_enter Tryz.func5,Tryz.ntmps5
  go_wp2_with fail
  refine HAL.out.mono ?_
  rintro e w1 ⟨rfl,hb1⟩
  go_wp2
  go_ret
  exact⟨rfl,hb1⟩
 obtain⟨s1,s2⟩:=str_pos (Nat.pos_of_ne_zero hk0)
 have HK0:=Lib.hid hk0
 clear hk0
 by_cases hc:key.size≤4000∧n≤60000∧0≤a∧a < b∧b≤253402300799
 rotate_left
 ·have hor:4000 < key.size∨(key.size≤4000∧(60000 < n∨(n≤60000∧(a < 0∨(0≤a∧(b≤a∨(a < b∧253402300799 < b))))))):=by omega
  clear hc
  go_enter Tryz.func5,Tryz.ntmps5
  go_wp2_with fail
  refine HAL.out.mono ?_
  rintro e w1 ⟨rfl,hb1⟩
  have HB1:=Lib.hid hb1
  clear hb1 HAL
  rcases hor with h1 | ⟨h1,h2 | ⟨h2,h3 | ⟨h3,h4 | ⟨h4,h5⟩⟩⟩⟩
  ·have q1:(key.size:Int) > 4000:=by omega
   go_wp2
   go_ret
   exact⟨rfl,HB1.out⟩
  ·have q1:¬ (key.size:Int) > 4000:=by omega
   have q2:(n:Int) > 60000:=by omega
   go_wp2
   go_ret
   exact⟨rfl,HB1.out⟩
  ·have q1:¬ (key.size:Int) > 4000:=by omega
   have q2:¬ (n:Int) > 60000:=by omega
   go_wp2
   go_ret
   exact⟨rfl,HB1.out⟩
  ·have q1:¬ (key.size:Int) > 4000:=by omega
   have q2:¬ (n:Int) > 60000:=by omega
   have q3:¬ a < 0:=by omega
   go_wp2
   go_ret
   exact⟨rfl,HB1.out⟩
  ·have q1:¬ (key.size:Int) > 4000:=by omega
   have q2:¬ (n:Int) > 60000:=by omega
   have q3:¬ a < 0:=by omega
   have q4:¬ b≤a:=by omega
   have q5:b > 253402300799:=h5
   go_wp2
   go_ret
   exact⟨rfl,HB1.out⟩
 obtain⟨h1,h2,h3,h4,h5⟩:=hc
 have q1:¬ (key.size:Int) > 4000:=by omega
 have q2:¬ (n:Int) > 60000:=by omega
 have q3:¬ a < 0:=by omega
 have q4:¬ b≤a:=by omega
 have q5:¬ b > 253402300799:=by omega
 obtain⟨t1,t2,htwo⟩:=C.two (body:=body) HK0.out h1 h3 h5 h4 (by rw[HN.out];exact h2)
 have HTW:=Lib.hid htwo
 have HAB:=Lib.hid h4
 have HK:=Lib.hid h1
 have HBO:=Lib.hid h2
 clear htwo h1 h2 h3 h4 h5
 go_enter Tryz.func5,Tryz.ntmps5
 go_wp2_with fail
 refine HAL.out.mono ?_
 rintro e w1 ⟨rfl,hb1⟩
 have hbg:=lawBegin_any 1073741824 none 0 [] (-1) 9 mem w1 (by decide) (Rd.nil _ _ _)
 have hgs:=C.great_start (n:=9) (by decide)
 change C.start 1073741824 [] (-1) 9=_ at hgs
 rw[hgs]at hbg
 have HBG:=Lib.hid hbg
 dsimp only[List.length_nil]at HBG
 have HB1:=Lib.hid hb1
 clear hbg hgs hb1 HAL
 go_wp2_with fail
 clear s1 s2 q1 q2 q3 q4 q5
 refine HBG.out.mono ?_
 rintro e w2 ⟨B,Z,pd,rfl,hc2,hBw,hB2,hb2,-⟩
 have HC2:=Lib.hid hc2
 have HBB:Hid (w.heap.size≤B):=Lib.hid (Nat.le_trans HB1.out.size hBw)
 have HB2:=Lib.hid (below_then HB1.out.size HB1.out hb2)
 have HZ2:=Lib.hid hB2
 have HS2:Hid (C.Snd0 (C.great 9) (C.abs ⟨some (C.great 9),[],[]⟩)):=Lib.hid ((C.great_snd (by decide)).s0 (by decide))
 have HLT:=Lib.hid (fun k (hk:Z.foot ⟨some (C.great 9),[],[]⟩ k)=>hc2.lt hk)
 obtain⟨a2,ha2⟩:∃ a2:CSt,⟨some (C.great 9),[],[]⟩=a2:=⟨_,rfl⟩
 rw[ha2]at HC2 HS2 HLT
 clear ha2 hc2 hBw hB2 hb2 HBG HB1
 have HEN:=Lib.hid (fun k g u=>lawEntry_any k g u)
 go_wp2_with fail
 refine (HEN.out _ _ _).mono ?_
 rintro e w3 ⟨rfl,hb3⟩
 obtain⟨w4,hw4⟩:∃ w4,w3.alloc (.cells #[.string ⟨#[]⟩,.string ⟨#[]⟩,.int .i64 0,.string ⟨#[]⟩,.int .i64 0,.slice none 0 0,.slice none 0 0,.int .i64 0,.int .i64 0] 41)=w4:=⟨_,rfl⟩
 have hb4:Below w3.heap.size w3 w4:=by rw[← hw4];exact (Below.refl _ _).alloc (Nat.le_refl _) _
 have hk4:Blk w4 w3.heap.size #[.string ⟨#[]⟩,.string ⟨#[]⟩,.int .i64 0,.string ⟨#[]⟩,.int .i64 0,.slice none 0 0,.slice none 0 0,.int .i64 0,.int .i64 0] 41:=by rw[← hw4];exact Blk.new w3 _ _
 obtain⟨z0,z1,z2,z3,z4,z5,z6,z7,z8⟩:=hk4.cells9
 obtain⟨r0,r1,r2,r3,r4,r5,r6,r7,r8⟩:=hk4.free9
 have HK14:=Lib.hid (hk4.set9 (.string key) (.string ⟨#[]⟩) (.int .i64 200) (.string ⟨#[]⟩) (.int .i64 1) (.slice none 0 0) (.slice none 0 0) (.int .i64 0) (.int .i64 a))
 have HB5:=Lib.hid (below_nine (below_then (Nat.le_trans (Nat.le_refl _) hb3.size) hb3 hb4) hb3.size (.string key) (.string ⟨#[]⟩) (.int .i64 200) (.string ⟨#[]⟩) (.int .i64 1) (.slice none 0 0) (.slice none 0 0) (.int .i64 0) (.int .i64 a))
 unfold nine at HK14 HB5
 clear hb3 hb4 hk4
 go_upto_region 9 with fail
 obtain⟨w5,hw5⟩:∃ w5,(((((((((w4.setCell ⟨w3.heap.size,0,none⟩ (.string key)).setCell ⟨w3.heap.size,1,none⟩ (.string ⟨#[]⟩)).setCell ⟨w3.heap.size,2,none⟩ (.int .i64 200)).setCell ⟨w3.heap.size,3,none⟩ (.string ⟨#[]⟩)).setCell ⟨w3.heap.size,4,none⟩ (.int .i64 1)).setCell ⟨w3.heap.size,5,none⟩ (.slice none 0 0)).setCell ⟨w3.heap.size,6,none⟩ (.slice none 0 0)).setCell ⟨w3.heap.size,7,none⟩ (.int .i64 0)).setCell ⟨w3.heap.size,8,none⟩ (.int .i64 a))=w5:=⟨_,rfl⟩
 rw[hw5]at HK14 HB5 ⊢
 clear hw4 hw5 z0 z1 z2 z3 z4 z5 z6 z7 z8 r0 r1 r2 r3 r4 r5 r6 r7 r8
 generalize w3.heap.size=b14 at *
 go_wp2_with fail
 refine (HEN.out _ _ _).mono ?_
 rintro e w6 ⟨rfl,hb6⟩
 obtain⟨w7,hw7⟩:∃ w7,w6.alloc (.cells #[.string ⟨#[]⟩,.string ⟨#[]⟩,.int .i64 0,.string ⟨#[]⟩,.int .i64 0,.slice none 0 0,.slice none 0 0,.int .i64 0,.int .i64 0] 41)=w7:=⟨_,rfl⟩
 have hb7:Below w6.heap.size w6 w7:=by rw[← hw7];exact (Below.refl _ _).alloc (Nat.le_refl _) _
 have hk7:Blk w7 w6.heap.size #[.string ⟨#[]⟩,.string ⟨#[]⟩,.int .i64 0,.string ⟨#[]⟩,.int .i64 0,.slice none 0 0,.slice none 0 0,.int .i64 0,.int .i64 0] 41:=by rw[← hw7];exact Blk.new w6 _ _
 obtain⟨z0,z1,z2,z3,z4,z5,z6,z7,z8⟩:=hk7.cells9
 obtain⟨r0,r1,r2,r3,r4,r5,r6,r7,r8⟩:=hk7.free9
 have HK15:=Lib.hid (hk7.set9 (.string key) (.string ⟨#[]⟩) (.int .i64 200) (.string ⟨#[]⟩) (.int .i64 1) (.slice none 0 0) (.slice none 0 0) (.int .i64 0) (.int .i64 b))
 have hne7:b14≠w6.heap.size:=by have h1:=HK14.out.lt;have h2:=hb6.size;omega
 have HK147:=Lib.hid (((HK14.out.below hb6).below hb7).nine_far hne7 (.string key) (.string ⟨#[]⟩) (.int .i64 200) (.string ⟨#[]⟩) (.int .i64 1) (.slice none 0 0) (.slice none 0 0) (.int .i64 0) (.int .i64 b))
 have HB8:=Lib.hid (below_nine (below_then HB5.out.size HB5.out (below_then hb6.size hb6 hb7)) (Nat.le_trans HB5.out.size hb6.size) (.string key) (.string ⟨#[]⟩) (.int .i64 200) (.string ⟨#[]⟩) (.int .i64 1) (.slice none 0 0) (.slice none 0 0) (.int .i64 0) (.int .i64 b))
 have HNE:=Lib.hid hne7
 have HZ15:=Lib.hid (Nat.le_trans HB5.out.size hb6.size)
 unfold nine at HK15 HB8 HK147
 clear hb6 hb7 hk7 hne7 HEN HK14 HB5
 go_upto_region 10 with fail
 obtain⟨w8,hw8⟩:∃ w8,(((((((((w7.setCell ⟨w6.heap.size,0,none⟩ (.string key)).setCell ⟨w6.heap.size,1,none⟩ (.string ⟨#[]⟩)).setCell ⟨w6.heap.size,2,none⟩ (.int .i64 200)).setCell ⟨w6.heap.size,3,none⟩ (.string ⟨#[]⟩)).setCell ⟨w6.heap.size,4,none⟩ (.int .i64 1)).setCell ⟨w6.heap.size,5,none⟩ (.slice none 0 0)).setCell ⟨w6.heap.size,6,none⟩ (.slice none 0 0)).setCell ⟨w6.heap.size,7,none⟩ (.int .i64 0)).setCell ⟨w6.heap.size,8,none⟩ (.int .i64 b))=w8:=⟨_,rfl⟩
 rw[hw8]at HK15 HB8 HK147 ⊢
 clear hw7 hw8 z0 z1 z2 z3 z4 z5 z6 z7 z8 r0 r1 r2 r3 r4 r5 r6 r7 r8
 generalize w6.heap.size=b15 at *
 -- the fields
 obtain⟨w9,hw9⟩:∃ w9,w8.alloc (.cells #[.string ⟨#[86,97,114,121]⟩,.string ⟨#[65,99,99,101,112,116]⟩] 60)=w9:=⟨_,rfl⟩
 have hb9:Below w8.heap.size w8 w9:=by rw[← hw9];exact (Below.refl _ _).alloc (Nat.le_refl _) _
 have hk9:Blk w9 w8.heap.size #[.string ⟨#[86,97,114,121]⟩,.string ⟨#[65,99,99,101,112,116]⟩] 60:=by rw[← hw9];exact Blk.new w8 _ _
 have hr9:Row w9 w8.heap.size 60 2 (some ⟨w8.heap.size,0,none⟩) 1 1 (fcells C.varyAccept):=.inl ⟨rfl,.inr ⟨w8.heap.size,1,_,rfl,Nat.le_refl _,hk9,Nat.le_refl _,by decide,rfl,rfl⟩⟩
 have hk15:=HK15.out.below hb9
 have f5:=hk15.free 5
 have y5:=hk15.cell 5 (v:=.slice none 0 0) rfl
 have HK15A:=Lib.hid (hk15.set 5 (.slice (some ⟨w8.heap.size,0,none⟩) 1 1))
 have hg9:=grown_set w9 b15 5 (.slice (some ⟨w8.heap.size,0,none⟩) 1 1)
 have HK14A:=Lib.hid ((HK147.out.below hb9).far 5 (.slice (some ⟨w8.heap.size,0,none⟩) 1 1) (Ne.symm HNE.out))
 have HR9:=Lib.hid (hr9.keptG hg9 (fun k hk e=>(hr9.tag hk).ne hk15.tag (by decide) (by simpa using e.symm)))
 have HBA:=Lib.hid (below_set (below_then HB8.out.size HB8.out hb9) HZ15.out 5 (.slice (some ⟨w8.heap.size,0,none⟩) 1 1))
 have HZ8:Hid (w2.heap.size≤w8.heap.size):=Lib.hid HB8.out.size
 clear hb9 hk9 hr9 hk15 hg9 HK15 HK147 HB8
 go_upto_region 11 with fail
 obtain⟨wA,hwA⟩:∃ wA,w9.setCell ⟨b15,5,none⟩ (.slice (some ⟨w8.heap.size,0,none⟩) 1 1)=wA:=⟨_,rfl⟩
 rw[hwA]at HK15A HK14A HR9 HBA ⊢
 clear hw9 hwA f5 y5
 generalize w8.heap.size=g10 at *
 have f1:=HK15A.out.free 1
 have y1:=HK15A.out.cell 1 (v:=.string ⟨#[]⟩) rfl
 have HK15B:=Lib.hid (HK15A.out.set 1 (.string ⟨#[97,99,99,101,112,116,10]⟩))
 have HK14B:=Lib.hid (HK14A.out.far 1 (.string ⟨#[97,99,99,101,112,116,10]⟩) (Ne.symm HNE.out))
 have HR9B:=Lib.hid (HR9.out.keptG (grown_set wA b15 1 (.string ⟨#[97,99,99,101,112,116,10]⟩)) (fun k hk e=>(HR9.out.tag hk).ne HK15A.out.tag (by decide) (by simpa using e.symm)))
 have HBB2:=Lib.hid (below_set HBA.out HZ15.out 1 (.string ⟨#[97,99,99,101,112,116,10]⟩))
 obtain⟨wB,hwB⟩:∃ wB,wA.setCell ⟨b15,1,none⟩ (.string ⟨#[97,99,99,101,112,116,10]⟩)=wB:=⟨_,rfl⟩
 rw[hwB]at HK15B HK14B HR9B HBB2
 have hcb:=copyBytesO_any A0 c0 body wB (by rw[HN.out];exact hbl) (by rw[HN.out];exact HX.out.below (below_then HB2.out.size HB2.out HBB2.out))
 rw[HN.out]at hcb
 have HCB:=Lib.hid hcb
 clear hcb HK15A HK14A HR9 HBA
 go_wp2_with fail
 clear hwB f1 y1
 refine HCB.out.mono ?_
 rintro e w12 ⟨X12,d12,rfl,hr12,hb12⟩
 have hk15:=HK15B.out.below hb12
 have f6:=hk15.free 6
 have y6:=hk15.cell 6 (v:=.slice none 0 0) rfl
 have HK15C:=Lib.hid (hk15.set 6 (.slice X12 n d12))
 have HK14C:=Lib.hid ((HK14B.out.below hb12).far 6 (.slice X12 n d12) (Ne.symm HNE.out))
 have hg12:=grown_set w12 b15 6 (.slice X12 n d12)
 have HR9C:=Lib.hid ((HR9B.out.below hb12).keptG hg12 (fun k hk e=>((HR9B.out.below hb12).tag hk).ne hk15.tag (by decide) (by simpa using e.symm)))
 have HRX:=Lib.hid (hr12.keptG hg12 (fun k hk e=>(hr12.tag hk).ne hk15.tag (by decide) (by simpa using e.symm)))
 have HBC:=Lib.hid (below_set (below_then HBB2.out.size HBB2.out hb12) HZ15.out 6 (.slice X12 n d12))
 have HZB:=Lib.hid HBB2.out.size
 clear hb12 hr12 hk15 hg12 HCB HK15B HK14B HR9B HBB2
 go_upto_region 13 with fail
 obtain⟨w13,hw13⟩:∃ w13,w12.setCell ⟨b15,6,none⟩ (.slice X12 n d12)=w13:=⟨_,rfl⟩
 rw[hw13]at HK15C HK14C HR9C HRX HBC ⊢
 clear hw13 f6 y6
 -- the first Save
 obtain⟨p,hp⟩:∃ p:EP,p=⟨C.entY key b body,some ⟨g10,0,none⟩,1,X12,d12⟩:=⟨_,rfl⟩
 have HPE:Hid (p.E=C.entY key b body):=Lib.hid (by rw[hp])
 have HPV:Hid (p.v=.agg #[.string key,.string ⟨#[97,99,99,101,112,116,10]⟩,.int .i64 200,.string ⟨#[]⟩,.int .i64 1,.slice (some ⟨g10,0,none⟩) 1 1,.slice X12 n d12,.int .i64 0,.int .i64 b]):=Lib.hid (by rw[hp,← HN.out];rfl)
 have HPX:=Lib.hid hp
 have HPO:Hid (EOwn w13 w2.heap.size p):=Lib.hid (by rw[hp];exact⟨HR9C.out.mono HZ8.out,by show Row w13 _ _ _ X12 body.length d12 _;rw[HN.out];exact HRX.out.mono HZB.out⟩)
 have hBw:Below B w2 w13:=HBC.out.mono HZ2.out
 have HC13:=Lib.hid (HC2.out.below HBC.out)
 have HB13:=Lib.hid (below_then HB2.out.size HB2.out HBC.out)
 have HZ13:=Lib.hid (Nat.le_trans HZ2.out HBC.out.size)
 have HOE:Hid (OutE (Z.foot a2) w13 p):=Lib.hid ⟨HPO.out.mono (Nat.zero_le _),fun k hk hf=>by
  have h1:=HLT.out k hf
  rcases hk with hk | hk
  ·have:=(HPO.out.1.lt k hk).1;omega
  ·have:=(HPO.out.2.lt k hk).1;omega⟩
 have HSV:=Lib.hid (saSave_any B _ w2.heap.size Z a2 (C.great 9) p w13 HC13.out HS2.out (by rw[HPE.out,HTW.out.p1];exact HTW.out.b1) (fun _=>by rw[HPE.out,HTW.out.p1];exact HTW.out.get1) HPO.out HLT.out (by
  unfold EP.lim
  rw[HPE.out]
  show 11+key.size+7+0+body.length≤_
  have:=HK.out;have:=HBO.out;have:=HN.out;omega) (tabs_of HTB.out HB13.out HBB.out) HZ13.out)
 rw[HPV.out,HPE.out,HTW.out.p1]at HSV
 dsimp only at HSV
 obtain⟨v0,v1,v2,v3,v4,v5,v6,v7,v8⟩:=HK15C.out.cells9
 clear hp hBw HR9C HRX HBC HLT HPO HZ2 HC2 HB2 HS2
 go_wp2_with fail
 clear v0 v1 v2 v3 v4 v5 v6 v7 v8
 refine HSV.out.mono ?_
 rintro e w14 ⟨rfl,hb14,hx14⟩
 obtain⟨Z14,a14,hz14,hc14,hw14,hs14⟩:=hx14 (by trivial)
 rw[← hz14]
 have HC14:=Lib.hid hc14
 have HS14:Hid (C.Snd0 t1 (C.abs a14)):=Lib.hid hs14
 have HB14:=Lib.hid (HB13.out.trans (hb14.mono HBB.out))
 have HZ14:=Lib.hid (Nat.le_trans HZ13.out hb14.size)
 have HKA:=Lib.hid (hw14.blk HK14C.out (HC13.out.offE HK14C.out))
 have HKB:=Lib.hid (hw14.blk HK15C.out (HC13.out.offE HK15C.out))
 have HOF:=Lib.hid (HOE.out.went hw14.1)
 have HSX:=Lib.hid (saSave_any B _ w14.heap.size Z14 a14 t1 (C.entP key a) w14 HC14.out HS14.out (by rw[show (C.entP key a).E=C.ent key a from rfl,HTW.out.p2];exact HTW.out.b2) (fun _=>by rw[show (C.entP key a).E=C.ent key a from rfl,HTW.out.p2];exact HTW.out.get2) (C.entP_own _ _ _ _) (fun k hk=>HC14.out.lt hk) (by
  unfold EP.lim
  show 0+key.size+0+0+0≤_
  have:=HK.out;omega) (tabs_of HTB.out HB14.out HBB.out) HZ14.out)
 rw[C.entP_v,show ((C.entP key a).E)=C.ent key a from rfl,HTW.out.p2]at HSX
 dsimp only at HSX
 obtain⟨v0,v1,v2,v3,v4,v5,v6,v7,v8⟩:=HKA.out.cells9
 clear hb14 hx14 hc14 hw14 hs14 hz14 HSV HC13 HB13 HZ13 HOE HK14C HK15C Z
 go_wp2_with fail
 clear v0 v1 v2 v3 v4 v5 v6 v7 v8
 refine HSX.out.mono ?_
 rintro e w15 ⟨rfl,hb15,hx15⟩
 obtain⟨Z15,a15,hz15,hc15,hw15,hs15⟩:=hx15 (by trivial)
 rw[← hz15]
 have HC15:=Lib.hid hc15
 have HS15:Hid (C.Snd0 t2 (C.abs a15)):=Lib.hid hs15
 have HB15:=Lib.hid (HB14.out.trans (hb15.mono HBB.out))
 have HZ15b:=Lib.hid (Nat.le_trans HZ14.out hb15.size)
 have HKA5:=Lib.hid (hw15.blk HKA.out (HC14.out.offE HKA.out))
 have HKB5:=Lib.hid (hw15.blk HKB.out (HC14.out.offE HKB.out))
 have HOF5:=Lib.hid (HOF.out.went hw15.1)
 obtain⟨id1,hpk1⟩:=C.new_find1 HTW.out HAB.out HS15.out
 have HF1:=Lib.hid (saFind_any B _ Z15 a15 t2 key none 0 [] w15 HC15.out HS15.out (by have:=HK.out;omega) (by decide) (Rd.nil _ _ _) (tabs_of HTB.out HB15.out HBB.out) HZ15b.out)
 rw[hpk1]at HF1
 dsimp only[List.length_nil]at HF1
 clear hb15 hx15 hc15 hw15 hs15 hz15 hpk1 HSX HC14 HB14 HZ14 HOF HKA HKB HS14 Z14
 go_wp2_with fail
 refine HF1.out.mono ?_
 rintro e w16 ⟨q,a16,rfl,hq16,ho16,hc16,hw16,hs16,hb16⟩
 obtain⟨w17,hw17⟩:∃ w17,w16.alloc (.cells #[.string ⟨#[]⟩,.string ⟨#[]⟩,.int .i64 0,.string ⟨#[]⟩,.int .i64 0,.slice none 0 0,.slice none 0 0,.int .i64 0,.int .i64 0] 41)=w17:=⟨_,rfl⟩
 have hb17:Below w16.heap.size w16 w17:=by rw[← hw17];exact (Below.refl _ _).alloc (Nat.le_refl _) _
 have hk17:Blk w17 w16.heap.size #[.string ⟨#[]⟩,.string ⟨#[]⟩,.int .i64 0,.string ⟨#[]⟩,.int .i64 0,.slice none 0 0,.slice none 0 0,.int .i64 0,.int .i64 0] 41:=by rw[← hw17];exact Blk.new w16 _ _
 obtain⟨z0,z1,z2,z3,z4,z5,z6,z7,z8⟩:=hk17.cells9
 obtain⟨r0,r1,r2,r3,r4,r5,r6,r7,r8⟩:=hk17.free9
 have hka:=hw16.blk HKA5.out (HC15.out.offE HKA5.out)
 have hkb:=hw16.blk HKB5.out (HC15.out.offE HKB5.out)
 have HC17:=Lib.hid ((hc16.below hb17).entry9 hk17 (.string q.E.k) (.string q.E.v) (.int .i64 q.E.s) (.string q.E.r) (.int .i64 q.E.m) (.slice q.A q.E.fs.length q.c) (.slice q.X q.E.body.length q.d) (.int .i64 q.E.asked) (.int .i64 q.E.got))
 have HB17:=Lib.hid (below_nine (below_then (Nat.le_trans HB15.out.size hw16.size) (HB15.out.trans (hb16.mono HBB.out)) hb17) (Nat.le_trans HB15.out.size hw16.size) (.string q.E.k) (.string q.E.v) (.int .i64 q.E.s) (.string q.E.r) (.int .i64 q.E.m) (.slice q.A q.E.fs.length q.c) (.slice q.X q.E.body.length q.d) (.int .i64 q.E.asked) (.int .i64 q.E.got))
 have HK16:=Lib.hid (hk17.set9 (.string q.E.k) (.string q.E.v) (.int .i64 q.E.s) (.string q.E.r) (.int .i64 q.E.m) (.slice q.A q.E.fs.length q.c) (.slice q.X q.E.body.length q.d) (.int .i64 q.E.asked) (.int .i64 q.E.got))
 have HKA7:=Lib.hid ((hka.below hb17).nine_far (b':=w16.heap.size) (by have:=hka.lt;omega) (.string q.E.k) (.string q.E.v) (.int .i64 q.E.s) (.string q.E.r) (.int .i64 q.E.m) (.slice q.A q.E.fs.length q.c) (.slice q.X q.E.body.length q.d) (.int .i64 q.E.asked) (.int .i64 q.E.got))
 have HKB7:=Lib.hid ((hkb.below hb17).nine_far (b':=w16.heap.size) (by have:=hkb.lt;omega) (.string q.E.k) (.string q.E.v) (.int .i64 q.E.s) (.string q.E.r) (.int .i64 q.E.m) (.slice q.A q.E.fs.length q.c) (.slice q.X q.E.body.length q.d) (.int .i64 q.E.asked) (.int .i64 q.E.got))
 have HOF7:=Lib.hid (((HOF5.out.went hw16.1).below hb17).nine hk17.tag (.string q.E.k) (.string q.E.v) (.int .i64 q.E.s) (.string q.E.r) (.int .i64 q.E.m) (.slice q.A q.E.fs.length q.c) (.slice q.X q.E.body.length q.d) (.int .i64 q.E.asked) (.int .i64 q.E.got))
 have HOQ7:=Lib.hid ((ho16.below hb17).nine hk17.tag (.string q.E.k) (.string q.E.v) (.int .i64 q.E.s) (.string q.E.r) (.int .i64 q.E.m) (.slice q.A q.E.fs.length q.c) (.slice q.X q.E.body.length q.d) (.int .i64 q.E.asked) (.int .i64 q.E.got))
 have HZ17:Hid (B≤(nine w17 w16.heap.size (.string q.E.k) (.string q.E.v) (.int .i64 q.E.s) (.string q.E.r) (.int .i64 q.E.m) (.slice q.A q.E.fs.length q.c) (.slice q.X q.E.body.length q.d) (.int .i64 q.E.asked) (.int .i64 q.E.got)).heap.size):=Lib.hid (by
  have h1:=(went_nine (F:=fun k=>k=w16.heap.size) (w:=w17) (b:=w16.heap.size) rfl (.string q.E.k) (.string q.E.v) (.int .i64 q.E.s) (.string q.E.r) (.int .i64 q.E.m) (.slice q.A q.E.fs.length q.c) (.slice q.X q.E.body.length q.d) (.int .i64 q.E.asked) (.int .i64 q.E.got)).size
  have:=HZ15b.out;have:=hw16.size;have:=hb17.size;omega)
 have HS17:Hid (C.Snd0 t2 (C.abs a16)):=Lib.hid hs16
 have HQ16:Hid (q.E=C.entY key b body):=Lib.hid hq16
 unfold EP.v entV
 unfold nine at HC17 HB17 HK16 HKA7 HKB7 HOF7 HOQ7 HZ17
 clear hq16 ho16 hc16 hw16 hs16 hb16 hb17 hk17 hka hkb HF1 HC15 HB15 HZ15b HKA5 HKB5 HOF5 HS15
 go_upto_region 16 with fail
 obtain⟨w18,hw18⟩:∃ w18,(((((((((w17.setCell ⟨w16.heap.size,0,none⟩ (.string q.E.k)).setCell ⟨w16.heap.size,1,none⟩ (.string q.E.v)).setCell ⟨w16.heap.size,2,none⟩ (.int .i64 q.E.s)).setCell ⟨w16.heap.size,3,none⟩ (.string q.E.r)).setCell ⟨w16.heap.size,4,none⟩ (.int .i64 q.E.m)).setCell ⟨w16.heap.size,5,none⟩ (.slice q.A q.E.fs.length q.c)).setCell ⟨w16.heap.size,6,none⟩ (.slice q.X q.E.body.length q.d)).setCell ⟨w16.heap.size,7,none⟩ (.int .i64 q.E.asked)).setCell ⟨w16.heap.size,8,none⟩ (.int .i64 q.E.got))=w18:=⟨_,rfl⟩
 rw[hw18]at HC17 HB17 HK16 HKA7 HKB7 HOF7 HOQ7 HZ17 ⊢
 clear hw17 hw18 z0 z1 z2 z3 z4 z5 z6 z7 z8 r0 r1 r2 r3 r4 r5 r6 r7 r8
 generalize w16.heap.size=b16 at *
 -- the second Find
 have hbe:Below w18.heap.size w18 (w18.alloc (.cells #[.string ⟨#[65,99,99,101,112,116]⟩,.string ⟨#[120]⟩] 60)):=(Below.refl _ _).alloc (Nat.le_refl _) _
 have hre:Rd (w18.alloc (.cells #[.string ⟨#[65,99,99,101,112,116]⟩,.string ⟨#[120]⟩] 60)) (some ⟨w18.heap.size,0,none⟩) 1 2 (fcells C.ask1):=Rd.newRow w18 60 #[.string ⟨#[65,99,99,101,112,116]⟩,.string ⟨#[120]⟩] 1 2 rfl
 have HC18:=Lib.hid (HC17.out.below hbe)
 have HB18:=Lib.hid (below_then HB17.out.size HB17.out hbe)
 have HZ18:=Lib.hid (Nat.le_trans HZ17.out hbe.size)
 obtain⟨id2,hpk2⟩:=C.new_find2 HTW.out HS17.out
 have HF2:=Lib.hid (saFind_any B _ Z15 a16 t2 key (some ⟨w18.heap.size,0,none⟩) 1 C.ask1 _ HC18.out HS17.out (by have:=HK.out;omega) (by decide) hre (tabs_of HTB.out HB18.out HBB.out) HZ18.out)
 rw[hpk2,show C.ask1.length=1 from rfl]at HF2
 have HKA8:=Lib.hid (HKA7.out.below hbe)
 have HKB8:=Lib.hid (HKB7.out.below hbe)
 have HK168:=Lib.hid (HK16.out.below hbe)
 have HOF8:=Lib.hid (HOF7.out.below hbe)
 have HOQ8:=Lib.hid (HOQ7.out.below hbe)
 clear hbe hre hpk2 HC17 HB17 HZ17 HKA7 HKB7 HK16 HOF7 HOQ7
 go_wp2_with fail
 refine HF2.out.mono ?_
 rintro e w19 ⟨q2,a19,rfl,hq19,ho19,-,hw19,-,hb19⟩
 obtain⟨w20,hw20⟩:∃ w20,w19.alloc (.cells #[.string ⟨#[]⟩,.string ⟨#[]⟩,.int .i64 0,.string ⟨#[]⟩,.int .i64 0,.slice none 0 0,.slice none 0 0,.int .i64 0,.int .i64 0] 41)=w20:=⟨_,rfl⟩
 have hb20:Below w19.heap.size w19 w20:=by rw[← hw20];exact (Below.refl _ _).alloc (Nat.le_refl _) _
 have hk20:Blk w20 w19.heap.size #[.string ⟨#[]⟩,.string ⟨#[]⟩,.int .i64 0,.string ⟨#[]⟩,.int .i64 0,.slice none 0 0,.slice none 0 0,.int .i64 0,.int .i64 0] 41:=by rw[← hw20];exact Blk.new w19 _ _
 obtain⟨z0,z1,z2,z3,z4,z5,z6,z7,z8⟩:=hk20.cells9
 obtain⟨r0,r1,r2,r3,r4,r5,r6,r7,r8⟩:=hk20.free9
 have hka:=hw19.blk HKA8.out (HC18.out.offE HKA8.out)
 have hkb:=hw19.blk HKB8.out (HC18.out.offE HKB8.out)
 have hkc:=hw19.blk HK168.out (HC18.out.offE HK168.out)
 have HB20:=Lib.hid (below_nine (below_then (Nat.le_trans HB18.out.size hw19.size) (HB18.out.trans (hb19.mono HBB.out)) hb20) (Nat.le_trans HB18.out.size hw19.size) (.string q2.E.k) (.string q2.E.v) (.int .i64 q2.E.s) (.string q2.E.r) (.int .i64 q2.E.m) (.slice q2.A q2.E.fs.length q2.c) (.slice q2.X q2.E.body.length q2.d) (.int .i64 q2.E.asked) (.int .i64 q2.E.got))
 have HK18:=Lib.hid (hk20.set9 (.string q2.E.k) (.string q2.E.v) (.int .i64 q2.E.s) (.string q2.E.r) (.int .i64 q2.E.m) (.slice q2.A q2.E.fs.length q2.c) (.slice q2.X q2.E.body.length q2.d) (.int .i64 q2.E.asked) (.int .i64 q2.E.got))
 have HKA9:=Lib.hid ((hka.below hb20).nine_far (b':=w19.heap.size) (by have:=hka.lt;omega) (.string q2.E.k) (.string q2.E.v) (.int .i64 q2.E.s) (.string q2.E.r) (.int .i64 q2.E.m) (.slice q2.A q2.E.fs.length q2.c) (.slice q2.X q2.E.body.length q2.d) (.int .i64 q2.E.asked) (.int .i64 q2.E.got))
 have HKB9:=Lib.hid ((hkb.below hb20).nine_far (b':=w19.heap.size) (by have:=hkb.lt;omega) (.string q2.E.k) (.string q2.E.v) (.int .i64 q2.E.s) (.string q2.E.r) (.int .i64 q2.E.m) (.slice q2.A q2.E.fs.length q2.c) (.slice q2.X q2.E.body.length q2.d) (.int .i64 q2.E.asked) (.int .i64 q2.E.got))
 have HKC9:=Lib.hid ((hkc.below hb20).nine_far (b':=w19.heap.size) (by have:=hkc.lt;omega) (.string q2.E.k) (.string q2.E.v) (.int .i64 q2.E.s) (.string q2.E.r) (.int .i64 q2.E.m) (.slice q2.A q2.E.fs.length q2.c) (.slice q2.X q2.E.body.length q2.d) (.int .i64 q2.E.asked) (.int .i64 q2.E.got))
 have HOF9:=Lib.hid (((HOF8.out.went hw19.1).below hb20).nine hk20.tag (.string q2.E.k) (.string q2.E.v) (.int .i64 q2.E.s) (.string q2.E.r) (.int .i64 q2.E.m) (.slice q2.A q2.E.fs.length q2.c) (.slice q2.X q2.E.body.length q2.d) (.int .i64 q2.E.asked) (.int .i64 q2.E.got))
 have HOQ9:=Lib.hid (((HOQ8.out.went hw19.1).below hb20).nine hk20.tag (.string q2.E.k) (.string q2.E.v) (.int .i64 q2.E.s) (.string q2.E.r) (.int .i64 q2.E.m) (.slice q2.A q2.E.fs.length q2.c) (.slice q2.X q2.E.body.length q2.d) (.int .i64 q2.E.asked) (.int .i64 q2.E.got))
 have HOR9:=Lib.hid ((ho19.below hb20).nine hk20.tag (.string q2.E.k) (.string q2.E.v) (.int .i64 q2.E.s) (.string q2.E.r) (.int .i64 q2.E.m) (.slice q2.A q2.E.fs.length q2.c) (.slice q2.X q2.E.body.length q2.d) (.int .i64 q2.E.asked) (.int .i64 q2.E.got))
 have HQ19:Hid (q2.E=C.ent key a):=Lib.hid hq19
 unfold EP.v entV
 unfold nine at HB20 HK18 HKA9 HKB9 HKC9 HOF9 HOQ9 HOR9
 clear hq19 ho19 hw19 hb19 hb20 hk20 hka hkb hkc HF2 HC18 HB18 HZ18 HKA8 HKB8 HK168 HOF8 HOQ8 HS17
 go_upto_region 17 with fail
 obtain⟨w21,hw21⟩:∃ w21,(((((((((w20.setCell ⟨w19.heap.size,0,none⟩ (.string q2.E.k)).setCell ⟨w19.heap.size,1,none⟩ (.string q2.E.v)).setCell ⟨w19.heap.size,2,none⟩ (.int .i64 q2.E.s)).setCell ⟨w19.heap.size,3,none⟩ (.string q2.E.r)).setCell ⟨w19.heap.size,4,none⟩ (.int .i64 q2.E.m)).setCell ⟨w19.heap.size,5,none⟩ (.slice q2.A q2.E.fs.length q2.c)).setCell ⟨w19.heap.size,6,none⟩ (.slice q2.X q2.E.body.length q2.d)).setCell ⟨w19.heap.size,7,none⟩ (.int .i64 q2.E.asked)).setCell ⟨w19.heap.size,8,none⟩ (.int .i64 q2.E.got))=w21:=⟨_,rfl⟩
 rw[hw21]at HB20 HK18 HKA9 HKB9 HKC9 HOF9 HOQ9 HOR9 ⊢
 clear hw20 hw21 z0 z1 z2 z3 z4 z5 z6 z7 z8 r0 r1 r2 r3 r4 r5 r6 r7 r8
 generalize w19.heap.size=b18 at *
 obtain⟨qE,qA,qc,qX,qd⟩:=q
 obtain⟨rE,rA,rc,rX,rd⟩:=q2
 have e1:qE=C.entY key b body:=HQ16.out
 have e2:rE=C.ent key a:=HQ19.out
 subst e1 e2
 clear HQ16 HQ19
 have HC1:=Lib.hid (fun u (hu:Below w21.heap.size w21 u)=>(by
  have h1:=HOQ9.out.own.rd.below hu
  have h2:=HOF9.out.own.rd.below hu
  have hq:=sameEntry_any key C.accept 200 ⟨#[]⟩ 1 qA qc C.varyAccept qX qd body 0 b (some ⟨g10,0,none⟩) 1 X12 d12 u (by decide) (by rw[HN.out];exact hbl) h1.1 (by have:=h2.1;rw[HPX.out]at this;exact this) h1.2 (by have:=h2.2;rw[HPX.out]at this;exact this)
  rw[HN.out]at hq
  exact hq:Calls Tryz.prog 16 #[.agg #[.string key,.string ⟨#[97,99,99,101,112,116,10]⟩,.int .i64 200,.string ⟨#[]⟩,.int .i64 1,.slice qA 1 qc,.slice qX n qd,.int .i64 0,.int .i64 b],.agg #[.string key,.string ⟨#[97,99,99,101,112,116,10]⟩,.int .i64 200,.string ⟨#[]⟩,.int .i64 1,.slice (some ⟨g10,0,none⟩) 1 1,.slice X12 n d12,.int .i64 0,.int .i64 b]] u (RetB u true)))
 have HC2:=Lib.hid (fun u (hu:Below w21.heap.size w21 u)=>(by
  have h1:=HOR9.out.own.rd.below hu
  exact sameEntry_any key ⟨#[]⟩ 200 ⟨#[]⟩ 1 rA rc [] rX rd [] 0 a none 0 none 0 u (by decide) (by decide) h1.1 (Rd.nil _ _ _) h1.2 (Rd.nil _ _ _):Calls Tryz.prog 16 #[.agg #[.string key,.string ⟨#[]⟩,.int .i64 200,.string ⟨#[]⟩,.int .i64 1,.slice rA 0 rc,.slice rX 0 rd,.int .i64 0,.int .i64 a],.agg #[.string key,.string ⟨#[]⟩,.int .i64 200,.string ⟨#[]⟩,.int .i64 1,.slice none 0 0,.slice none 0 0,.int .i64 0,.int .i64 a]] u (RetB u true)))
 have HID:=Lib.hid (fun u=>refId_any key ⟨#[]⟩ u (by have:=HK.out;omega) (by decide))
 clear HOR9 HOF9 HOQ9
 have hkc:Blk w21 b16 #[.string key,.string ⟨#[97,99,99,101,112,116,10]⟩,.int .i64 200,.string ⟨#[]⟩,.int .i64 1,.slice qA 1 qc,.slice qX body.length qd,.int .i64 0,.int .i64 b] 41:=HKC9.out
 rw[HN.out]at hkc
 have hkd:Blk w21 b18 #[.string key,.string ⟨#[]⟩,.int .i64 200,.string ⟨#[]⟩,.int .i64 1,.slice rA 0 rc,.slice rX 0 rd,.int .i64 0,.int .i64 a] 41:=HK18.out
 obtain⟨x0,x1,x2,x3,x4,x5,x6,x7,x8⟩:=hkc.cells9
 obtain⟨y0,y1,y2,y3,y4,y5,y6,y7,y8⟩:=HKB9.out.cells9
 obtain⟨z0,z1,z2,z3,z4,z5,z6,z7,z8⟩:=hkd.cells9
 obtain⟨v0,v1,v2,v3,v4,v5,v6,v7,v8⟩:=HKA9.out.cells9
 have hids:0 < (key++⟨#[10]⟩++⟨#[]⟩:ByteArray).size:=by rw[L_size,L_append,L_append,List.length_append,List.length_append];show 0 < _+1+0;omega
 obtain⟨d1,d2⟩:=str_pos hids
 obtain⟨idx,hidx⟩:∃ idx:ByteArray,key++⟨#[10]⟩++⟨#[]⟩=idx:=⟨_,rfl⟩
 rw[hidx]at HID d1 d2
 clear hidx hids hkc hkd HKC9 HKB9 HK18 HKA9
 go_wp2_with fail
 clear x0 x1 x2 x3 x4 x5 x6 x7 x8 y0 y1 y2 y3 y4 y5 y6 y7 y8
 refine (HC1.out w21 (Below.refl _ _)).mono ?_
 rintro e w22 ⟨rfl,hb22⟩
 have HB22:=Lib.hid hb22
 have HQ2:=Lib.hid (HC2.out w22 hb22)
 have z0:=(hb22.cell (p:=⟨b18,0,none⟩) (cell_lt z0)).trans z0
 have z1:=(hb22.cell (p:=⟨b18,1,none⟩) (cell_lt z1)).trans z1
 have z2:=(hb22.cell (p:=⟨b18,2,none⟩) (cell_lt z2)).trans z2
 have z3:=(hb22.cell (p:=⟨b18,3,none⟩) (cell_lt z3)).trans z3
 have z4:=(hb22.cell (p:=⟨b18,4,none⟩) (cell_lt z4)).trans z4
 have z5:=(hb22.cell (p:=⟨b18,5,none⟩) (cell_lt z5)).trans z5
 have z6:=(hb22.cell (p:=⟨b18,6,none⟩) (cell_lt z6)).trans z6
 have z7:=(hb22.cell (p:=⟨b18,7,none⟩) (cell_lt z7)).trans z7
 have z8:=(hb22.cell (p:=⟨b18,8,none⟩) (cell_lt z8)).trans z8
 have v0:=(hb22.cell (p:=⟨b14,0,none⟩) (cell_lt v0)).trans v0
 have v1:=(hb22.cell (p:=⟨b14,1,none⟩) (cell_lt v1)).trans v1
 have v2:=(hb22.cell (p:=⟨b14,2,none⟩) (cell_lt v2)).trans v2
 have v3:=(hb22.cell (p:=⟨b14,3,none⟩) (cell_lt v3)).trans v3
 have v4:=(hb22.cell (p:=⟨b14,4,none⟩) (cell_lt v4)).trans v4
 have v5:=(hb22.cell (p:=⟨b14,5,none⟩) (cell_lt v5)).trans v5
 have v6:=(hb22.cell (p:=⟨b14,6,none⟩) (cell_lt v6)).trans v6
 have v7:=(hb22.cell (p:=⟨b14,7,none⟩) (cell_lt v7)).trans v7
 have v8:=(hb22.cell (p:=⟨b14,8,none⟩) (cell_lt v8)).trans v8
 clear hb22 HC1 HC2
 go_wp2_with fail
 clear z0 z1 z2 z3 z4 z5 z6 z7 z8 v0 v1 v2 v3 v4 v5 v6 v7 v8
 refine HQ2.out.mono ?_
 rintro e w23 ⟨rfl,hb23⟩
 have HB23:=Lib.hid (below_then HB22.out.size HB22.out hb23)
 clear hb23 HQ2 HB22
 go_wp2_with fail
 refine (HID.out w23).mono ?_
 rintro e w24 ⟨rfl,hb24⟩
 have HB24:=Lib.hid (below_then HB23.out.size HB23.out hb24)
 clear hb24 HID HB23
 go_wp2
 go_ret
 exact⟨rfl,below_then HB20.out.size HB20.out HB24.out⟩
end Go.Proofs.YthjeglnkgdpijaaGreatDoor
