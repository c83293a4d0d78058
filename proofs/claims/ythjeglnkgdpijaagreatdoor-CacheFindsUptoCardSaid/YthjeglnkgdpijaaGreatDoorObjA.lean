/- An entry's bytes taken apart, as plain functions: every entry that is written is read as it was, and nothing else is. No program here. The walks of be.Get, the document's Value and object.section. Conditions: at most eight bytes; a row of at most 2^30 bytes. What is turned, cut or lengthened is no entry's: plain laws of the sum and of an entry's bytes. No program here. The walks of bytes.Clone and bytes.Equal. Conditions: rows of at most 2^40 bytes. The walk of object.section. Conditions: a row of at most 2^30 bytes. A struct of nine cells written over; what Decode answers; rows of five. No condition: plain lemmas on worlds. What a decoding tells of sizes; the ways that a written entry is read. No program here but the word for an answer. -/
import Derived.Test.YthjeglnkgdpijaaGreatDoorHopPA
set_option maxHeartbeats 2000000
set_option maxRecDepth 100000
namespace Go.Proofs.YthjeglnkgdpijaaGreatDoor
open Go.RowKit
namespace O
def val (l:List UInt8):Nat:=l.foldl (fun a c=>a * 256+c.toNat) 0
theorem zY:∀ (l:List UInt8) (a:Nat),l.foldl (fun a c=>a * 256+c.toNat) a=a * 256 ^ l.length+val l
 | [],a=>by simp [val]
 | c::l,a=>by
  unfold val
  rw[List.foldl_cons,List.foldl_cons,zY l,zY l,List.length_cons,Nat.pow_succ]
  rw[Nat.add_mul,Nat.zero_mul,Nat.zero_add,Nat.mul_assoc,Nat.mul_comm 256,Nat.add_assoc]
theorem aES (c:UInt8) (l:List UInt8):val (c::l)=c.toNat * 256 ^ l.length+val l:=by
 show (c::l).foldl _ 0=_
 rw[List.foldl_cons,zY,Nat.zero_mul,Nat.zero_add]
theorem wU:∀ l:List UInt8,val l < 256 ^ l.length
 | []=>by decide
 | c::l=>by
  rw[aES,List.length_cons,Nat.pow_succ,Nat.mul_comm (256 ^ l.length)]
  have h1:=wU l
  have h2:=c.toNat_lt
  have h3:c.toNat * 256 ^ l.length+256 ^ l.length≤256 * 256 ^ l.length:=by
   rw[← Nat.succ_mul]
   exact Nat.mul_le_mul_right _ (by omega)
  omega
theorem dig_val (v k:Nat):(dig v k).toNat=v / 256 ^ k % 256:=by
 have h:(2:Nat) ^ (8 * k)=256 ^ k:=by rw[Nat.pow_mul]
 unfold dig
 rw[h,UInt8.toNat_ofNat']
 exact Nat.mod_mod _ _
theorem aIH (v:Nat):∀ k,val (beN v k)=v % 256 ^ k
 | 0=>by simp [val,beN,Nat.mod_one]
 | k+1=>by
  rw[beN,aES,aP,dig_val,aIH v k,Nat.mod_pow_succ,Nat.mul_comm,Nat.add_comm]
theorem jY {v k:Nat} (h:v < 256 ^ k):val (beN v k)=v:=by rw[aIH,Nat.mod_eq_of_lt h]
def cut (l:List UInt8):Option (List UInt8 × List UInt8) :=
 if l.length < 5 then none else if l.length - 5 < val ((l.drop 1).take 4) then none else some ((l.drop 5).take (val ((l.drop 1).take 4)),(l.drop 5).drop (val ((l.drop 1).take 4)))
theorem aKM (t:Nat) (data rest:List UInt8) (h:data.length < 4294967296):cut (sZ t data++rest)=some (data,rest):=by
 have e:sZ t data++rest=UInt8.ofNat t::(beN data.length 4++(data++rest)):=by unfold sZ;rw[List.cons_append,List.append_assoc]
 have hl:(beN data.length 4).length=4:=aP _ _
 have h1:((sZ t data++rest).drop 1).take 4=beN data.length 4:=by
  rw[e,List.drop_succ_cons,List.drop_zero,List.take_append_of_le_length (by omega),List.take_of_length_le (by omega)]
 have h2:(sZ t data++rest).drop 5=data++rest:=by
  rw[e,List.drop_succ_cons,List.drop_append_of_le_length (by omega),List.drop_of_length_le (by omega),List.nil_append]
 have h3:(sZ t data++rest).length=5+(data.length+rest.length):=by rw[bC,rO];omega
 unfold cut
 rw[h1,h2,h3,jY (show data.length < 256 ^ 4 from h),if_neg (by omega),if_neg (by omega),List.take_left,List.drop_left]
theorem aKN {l d r:List UInt8} (h:cut l=some (d,r)):l.length=5+d.length+r.length∧d=(l.drop 5).take (val ((l.drop 1).take 4))∧r=(l.drop 5).drop (val ((l.drop 1).take 4))∧5≤l.length∧val ((l.drop 1).take 4)≤l.length - 5:=by
 unfold cut at h
 split at h
 ·cases h
 ·split at h
  ·cases h
  ·injection h with h
   injection h with hd hr
   refine⟨?_,hd.symm,hr.symm,by omega,by omega⟩
   rw[← hd,← hr,List.length_take,List.length_drop,List.length_drop,List.length_drop]
   omega
def parts (l:List UInt8):Nat→Option (List (List UInt8) × List UInt8)
 | 0=>some ([],l)
 | k+1=>match parts l k with
  | none=>none
  | some (ds,r)=>match cut r with
   | none=>none
   | some (d,r')=>some (ds++[d],r')
theorem mZ {l:List UInt8}:∀ (k:Nat) (ds:List (List UInt8)) (r:List UInt8),parts l k=some (ds,r)→ds.length=k∧∃ j,5 * k≤j∧j≤l.length∧r=l.drop j
 | 0,ds,r,h=>by
  injection h with h
  injection h with h1 h2
  rw[← h1,← h2]
  exact⟨rfl,0,zA _,zF _,rfl⟩
 | k+1,ds,r,h=>by
  unfold parts at h
  cases hp:parts l k with
  | none=>rw[hp]at h;cases h
  | some x =>
   obtain⟨ds0,r0⟩:=x
   rw[hp]at h
   obtain⟨g1,j,g2,g3,g4⟩:=mZ k ds0 r0 hp
   cases hc:cut r0 with
   | none=>simp only[hc]at h;cases h
   | some y =>
    obtain⟨d,r'⟩:=y
    simp only[hc]at h
    obtain⟨c1,_,c3,c4,c5⟩:=aKN hc
    injection h with h
    injection h with h1 h2
    have hr0:r0.length=l.length - j:=by rw[g4,List.length_drop]
    refine⟨by rw[← h1,bC,g1];rfl,j+(5+val ((r0.drop 1).take 4)),by omega,by omega,?_⟩
    have e:∀ n,l.drop (j+(5+n))=(r0.drop 5).drop n:=fun n=>by rw[g4,List.drop_drop,List.drop_drop]
    rw[← h2,c3,e]
theorem uA (dat:Nat→List UInt8) (h:∀ i,(dat i).length < 4294967296):∀ (k:Nat) (rest:List UInt8),parts ((preO dat k++rest).drop 3) k=some ((List.range k).map dat,rest)
 | 0,rest=>rfl
 | k+1,rest=>by
  rw[preO,List.append_assoc]
  unfold parts
  rw[uA dat h k (sZ (k+1) (dat k)++rest)]
  simp only[aKM (k+1) (dat k) rest (h k)]
  rw[List.range_succ,List.map_append]
  rfl
structure Ent where
 k:ByteArray
 v:ByteArray
 s:Int
 r:ByteArray
 m:Int
 fs:List FD
 body:List UInt8
 asked:Int
 got:Int
def Ent.ok (E:Ent):Bool:=uF E.k E.v E.s E.r E.m E.fs E.body.length E.asked E.got
def Ent.bytes (E:Ent):List UInt8:=aOI (aLJ E.k E.v (F.eQ E.s E.r E.m E.fs) E.body E.asked E.got)
def aI8:List (List UInt8)→Option Ent
 | [p0,p1,p2,p3,p4]=>some ⟨B p0,B p1,(P.response p2).s,(P.response p2).r,(P.response p2).v,(P.response p2).fs,p3,(val (p4.take 8):Nat),(val (p4.drop 8):Nat)⟩
 | _=>none
def entOf (b:List UInt8):Option Ent:=match parts (b.drop 3) 5 with
 | none=>none
 | some (ds,_)=>aI8 ds
def dec (b:List UInt8):Option Ent:=match entOf b with
 | none=>none
 | some E=>if E.ok=true∧E.bytes=b then some E else none
theorem gB {b:List UInt8} {E:Ent} (h:dec b=some E):E.ok=true∧E.bytes=b∧entOf b=some E:=by
 unfold dec at h
 split at h
 ·cases h
 ·rename_i E' he
  split at h
  ·rename_i h2
   injection h with h
   subst h
   exact⟨h2.1,h2.2,he⟩
  ·cases h
structure Told (b:List UInt8) (E:Ent):Prop where
 ok:F.gW E.s E.r E.m E.fs=0
 okE:okE E.k E.v E.body.length E.asked E.got=true
 pre:b=preO (aLJ E.k E.v (F.eQ E.s E.r E.m E.fs) E.body E.asked E.got) 5++beN (iP (preO (aLJ E.k E.v (F.eQ E.s E.r E.m E.fs) E.body E.asked E.got) 5)) 4
theorem nX {E:Ent} {b:List UInt8} (h:E.ok=true) (hb:E.bytes=b):Told b E:=by
 obtain⟨h1,h2⟩:=of_decide_eq_true (show decide (F.gW E.s E.r E.m E.fs=0∧Go.Proofs.YthjeglnkgdpijaaGreatDoor.okE E.k E.v E.body.length E.asked E.got=true)=true from h)
 exact⟨h1,h2,hb.symm⟩
section
variable {b:List UInt8} {E:Ent}
theorem Told.dat (h:Told b E) (i:Nat):(aLJ E.k E.v (F.eQ E.s E.r E.m E.fs) E.body E.asked E.got i).length≤65536:=by
 obtain⟨h1,h2,h3,_⟩:=gQ h.okE
 have hr:=(P.iL h.ok []).2.1
 match i with
 | 0=>show (L E.k).length≤_;rw[← aS];omega
 | 1=>show (L E.v).length≤_;rw[← aS];omega
 | 2=>show (F.eQ E.s E.r E.m E.fs).length≤_;omega
 | 3=>exact h3
 | 4=>show (beN E.asked.toNat 8++beN E.got.toNat 8).length≤_;rw[bC,aP,aP];decide
 | _+5=>exact zF _
theorem tV (dat:Nat→List UInt8) (k:Nat):∀ j,∃ r,preO dat (k+j)=preO dat k++r
 | 0=>⟨[],by rw[Nat.add_zero,List.append_nil]⟩
 | j+1=>by
  obtain⟨r,hr⟩:=tV dat k j
  exact⟨r++sZ (k+j+1) (dat (k+j)),by rw[← List.append_assoc,← hr];rfl⟩
def Ent.dat (E:Ent):Nat→List UInt8:=aLJ E.k E.v (F.eQ E.s E.r E.m E.fs) E.body E.asked E.got
theorem Told.parts (h:Told b E) (k:Nat) (hk:k≤5):∃ r,O.parts (b.drop 3) k=some ((List.range k).map E.dat,r)∧(k < 5→∃ r',r=sZ (k+1) (E.dat k)++r')∧(k=5→r=beN (iP (preO E.dat 5)) 4):=by
 have hd:∀ i,(E.dat i).length < 4294967296:=fun i=>Nat.lt_of_le_of_lt (h.dat i) (by decide)
 by_cases h5:k=5
 ·subst h5
  refine⟨_,?_,fun h=>absurd h (by decide),fun _=>rfl⟩
  have:=uA E.dat hd 5 (beN (iP (preO E.dat 5)) 4)
  rw[h.pre]
  exact this
 ·obtain⟨r,hr⟩:=tV E.dat (k+1) (4 - k)
  have e:b=preO E.dat k++(sZ (k+1) (E.dat k)++(r++beN (iP (preO E.dat 5)) 4)):=by
   have hp:b=preO E.dat 5++beN (iP (preO E.dat 5)) 4:=h.pre
   rw[show k+1+(4 - k)=5 by omega]at hr
   have hr2:preO E.dat 5=preO E.dat k++sZ (k+1) (E.dat k)++r:=hr
   conv=>lhs;rw[hp]
   conv=>lhs;lhs;rw[hr2]
   rw[List.append_assoc,List.append_assoc]
  refine⟨sZ (k+1) (E.dat k)++(r++beN (iP (preO E.dat 5)) 4),?_,fun _=>⟨r++beN (iP (preO E.dat 5)) 4,rfl⟩,fun h=>absurd h h5⟩
  have:=uA E.dat hd k (sZ (k+1) (E.dat k)++(r++beN (iP (preO E.dat 5)) 4))
  rw[← e]at this
  exact this
theorem Told.len (h:Told b E):36≤b.length∧b.length≤100000:=by
 obtain⟨h1,h2,h3,_⟩:=gQ h.okE
 have hr:=(P.iL h.ok []).2.1
 have e:b.length=3+(5+(L E.k).length)+(5+(L E.v).length)+(5+(F.eQ E.s E.r E.m E.fs).length)+(5+E.body.length)+(5+16)+4:=by
  rw[h.pre,bC,aP]
  show (([67,79,49]++sZ 1 _++sZ 2 _++sZ 3 _++sZ 4 _++sZ 5 _:List UInt8)).length+4=_
  simp only[bC,rO]
  show 3+(5+(L E.k).length)+(5+(L E.v).length)+(5+(F.eQ E.s E.r E.m E.fs).length)+(5+E.body.length)+(5+(beN E.asked.toNat 8++beN E.got.toNat 8).length)+4=_
  rw[bC,aP,aP]
 rw[← aS,← aS]at e
 omega
theorem Told.magic (h:Told b E):b.take 3=[67,79,49]:=by
 obtain⟨r,hr⟩:=tV E.dat 0 5
 have hp:b=preO E.dat 5++beN (iP (preO E.dat 5)) 4:=h.pre
 rw[show 0+5=5 from rfl]at hr
 rw[hp,hr,List.append_assoc]
 rfl
theorem Told.sum (h:Told b E):b.drop (b.length - 4)=beN (iP (b.take (b.length - 4))) 4:=by
 have hp:b=preO E.dat 5++beN (iP (preO E.dat 5)) 4:=h.pre
 have hl:b.length - 4=(preO E.dat 5).length:=by
  have:=congrArg List.length hp
  rw[bC,aP]at this
  omega
 rw[hl]
 conv=>lhs;rw[hp]
 conv=>rhs;rw[hp]
 rw[List.drop_left,List.take_left]
theorem Told.resp (h:Told b E):P.response (E.dat 2)=⟨E.s,E.r,E.m,E.fs,((E.dat 2).length:Int),0⟩∧0 < (E.dat 2).length:=by
 have hr:=P.iL h.ok []
 rw[List.append_nil]at hr
 exact⟨hr.1,hr.2.2.1⟩
theorem Told.times (h:Told b E):(E.dat 4).length=16∧((val ((E.dat 4).take 8):Nat):Int)=E.asked∧((val ((E.dat 4).drop 8):Nat):Int)=E.got∧val ((E.dat 4).take 8) < 9223372036854775808∧val ((E.dat 4).drop 8) < 9223372036854775808:=by
 obtain⟨_,_,_,h4,h5,h6,h7⟩:=gQ h.okE
 have e:E.dat 4=beN E.asked.toNat 8++beN E.got.toNat 8:=rfl
 have e1:(E.dat 4).take 8=beN E.asked.toNat 8:=by rw[e,List.take_append_of_le_length (by rw[aP];decide),List.take_of_length_le (by rw[aP];decide)]
 have e2:(E.dat 4).drop 8=beN E.got.toNat 8:=by rw[e,List.drop_append_of_le_length (by rw[aP];decide),List.drop_of_length_le (by rw[aP];decide),List.nil_append]
 have hb:(256:Nat) ^ 8=18446744073709551616:=by decide
 rw[e1,e2,jY (by omega),jY (by omega)]
 refine⟨by rw[e,bC,aP,aP],by omega,by omega,by omega,by omega⟩
theorem Told.entOf (h:Told b E):O.entOf b=some E:=by
 obtain⟨r,hr,_,_⟩:=h.parts 5 (zA _)
 obtain⟨_,t1,t2,_⟩:=h.times
 unfold O.entOf
 rw[hr]
 show some (Ent.mk (B (E.dat 0)) (B (E.dat 1)) (P.response (E.dat 2)).s (P.response (E.dat 2)).r (P.response (E.dat 2)).v (P.response (E.dat 2)).fs (E.dat 3) _ _)=some E
 rw[h.resp.1,t1,t2]
 show some (Ent.mk (B (L E.k)) (B (L E.v)) E.s E.r E.m E.fs E.body E.asked E.got)=some E
 rw[B_L,B_L]
theorem aNJ (h:E.ok=true) (hb:E.bytes=b):dec b=some E:=by
 unfold dec
 rw[(nX h hb).entOf]
 exact if_pos ⟨h,hb⟩
end
end O
namespace O
theorem val_snoc (l:List UInt8) (x:UInt8):val (l++[x])=val l * 256+x.toNat:=by
 unfold val
 rw[List.foldl_append]
 rfl
theorem aLS (l:List UInt8) (k:Nat) (h:k < l.length):val (l.take (k+1))=val (l.take k) * 256+(l[k]'h).toNat:=by
 rw[List.take_add_one,List.getElem?_eq_getElem h]
 exact val_snoc _ _
theorem aO2 {l:List UInt8} (_h:l.length≤8) (k:Nat):val (l.take k) < 256 ^ (min k l.length):=by
 have:=wU (l.take k)
 rwa [List.length_take]at this
end O
theorem aPR (x y:Nat) (hx:x < 72057594037927936) (hy:y < 256):bits .or .u64 ((x:Int) * 256) (y:Int)=((x * 256+y:Nat):Int):=by
 have h:=u64_or_nat (x * 256) y (by omega) (by omega)
 have e:x * 256 ||| y=x * 256+y:=by
  have:=Nat.two_pow_add_eq_or_of_lt (i:=8) (b:=y) hy x
  rw[Nat.mul_comm x 256]
  exact this.symm
 rw[e]at h
 rw[Int.natCast_mul]at h
 exact h
theorem aFP (A:Option Addr) (c:Nat) (l:List UInt8) (w:World) (hn:l.length≤8) (hx:Rd w A l.length 1 (aB l)) :
  Calls Tryz.prog 174 #[.slice A l.length c] w (vX w (.int .i64 (wrap64 (O.val l:Nat)))):=by
 have HX:=aH hx
 clear hx
 obtain⟨n,hnn⟩:∃ n,n=l.length:=⟨_,rfl⟩
 rw[← hnn]at HX hn ⊢
 have HN:=aH hnn
 clear hnn
 go_enter Tryz.func174,Tryz.ntmps174
 go_wp2
 go_loopw [3,8] (fun x i wr=>∃ k:Nat,k≤n∧i=.int .i64 k∧x=.int .u64 (O.val (l.take k):Nat)∧w=wr) (fun _ i _=>n - (intOf i).toNat)
 case atStart=>exact⟨0,zF _,rfl,rfl,rfl⟩
 case round =>
  obtain⟨k,hk,rfl,rfl,rfl⟩:=hrel
  by_cases hlt:k < n
  ·have hkb:k < l.length:=by have:=HN.out;omega
   obtain⟨b,o,hA,hblt,hcs⟩:=HX.out.2 (by omega)
   have hce:=hcs k (.int .u8 (l[k]'hkb).toNat) (by simp [aB,hkb])
   have HNX:=aH (O.aLS l k hkb)
   have hy:=(l[k]'hkb).toNat_lt
   have hv:O.val (l.take k) < 72057594037927936:=by
    have h1:=O.aO2 (l:=l) (by rw[← HN.out];exact hn) k
    have h2:(256:Nat) ^ (min k l.length)≤256 ^ 7:=Nat.pow_le_pow_right (by decide) (by omega)
    have h3:(256:Nat) ^ 7=72057594037927936:=by decide
    omega
   generalize (l[k]'hkb)=y at *
   generalize O.val (l.take k)=x at *
   have hor:=aPR x y.toNat hv (by omega)
   subst hA
   clear hcs HX
   go_wp2_with fail
   exact⟨⟨k+1,by omega,by go_num,by rw[HNX.out];rfl,trivial⟩,by simp [intOf];omega⟩
  ·obtain rfl:k=n:=by omega
   have hst:l.take k=l:=List.take_of_length_le (by have:=HN.out;omega)
   rw[hst]
   clear hst
   generalize O.val l=x at *
   go_wp2
   go_ret
   exact⟨rfl,rfl⟩
namespace O
theorem aQI (c:UInt8):c.toNat < 4294967296:=Nat.lt_trans c.toNat_lt (by decide)
theorem aKT {v:Nat} (h:v < 4294967296) (c:UInt8):aEG v c < 4294967296:=sD (wO h (aQI c)) 8
theorem aJ7:∀ (l:List UInt8) {a:Nat},a < 4294967296→l.foldl aEG a < 4294967296
 | [],_,h=>h
 | c::l,_,h=>aJ7 l (aKT h c)
theorem sum_lt (l:List UInt8):iP l < 4294967296:=wO (aJ7 l (by decide)) (by decide)
theorem Told.four {b:List UInt8} {E:Ent} (h:Told b E):∃ ds r,O.parts (b.drop 3) 5=some (ds,r)∧r.length=4:=by
 obtain⟨r,h1,_,h2⟩:=h.parts 5 (zA _)
 exact⟨_,r,h1,by rw[h2 rfl,aP]⟩
theorem wY {b p0 p1 p2 p3 p4 r:List UInt8} {E:Ent} (h:Told b E) (hp:O.parts (b.drop 3) 5=some ([p0,p1,p2,p3,p4],r)):E.dat 0=p0∧E.dat 1=p1∧E.dat 2=p2∧E.dat 3=p3∧E.dat 4=p4:=by
 obtain⟨r',h1,_⟩:=h.parts 5 (zA _)
 rw[hp]at h1
 injection h1 with h1
 injection h1 with h1 _
 have h2:[p0,p1,p2,p3,p4]=[E.dat 0,E.dat 1,E.dat 2,E.dat 3,E.dat 4]:=h1
 injection h2 with a0 h2
 injection h2 with a1 h2
 injection h2 with a2 h2
 injection h2 with a3 h2
 injection h2 with a4 _
 exact⟨a0.symm,a1.symm,a2.symm,a3.symm,a4.symm⟩
theorem aCH {l:List UInt8} (h:∀ E,¬ Told l E):dec l=none:=by
 cases hd:dec l with
 | none=>rfl
 | some E=>exact absurd (nX (gB hd).1 (gB hd).2.1) (h E)
section
variable {b p0 p1 p2 p3 p4 r:List UInt8} (hp:O.parts (b.drop 3) 5=some ([p0,p1,p2,p3,p4],r))
include hp
theorem aNK (h:(P.response p2).e=0→(P.response p2).n=(p2.length:Int)→p2.length=0):dec b=none:=aCH fun E hE=>by
 have h2:=(wY hE hp).2.2.1
 have h3:=hE.resp
 rw[h2]at h3
 rw[h3.1]at h
 have:=h rfl rfl
 omega
theorem aKJ (h:p4.length≠16):dec b=none:=aCH fun E hE=>h (by rw[← (wY hE hp).2.2.2.2];exact hE.times.1)
theorem aQB:dec b=if uF (B p0) (B p1) (P.response p2).s (P.response p2).r (P.response p2).v (P.response p2).fs p3.length (val (p4.take 8):Nat) (val (p4.drop 8):Nat)=true∧rQ (B p0) (B p1) (P.response p2).s (P.response p2).r (P.response p2).v (P.response p2).fs p3 (val (p4.take 8):Nat) (val (p4.drop 8):Nat)=b then some ⟨B p0,B p1,(P.response p2).s,(P.response p2).r,(P.response p2).v,(P.response p2).fs,p3,(val (p4.take 8):Nat),(val (p4.drop 8):Nat)⟩ else none:=by
 unfold dec entOf
 rw[hp]
 simp only[aI8]
 by_cases hok:uF (B p0) (B p1) (P.response p2).s (P.response p2).r (P.response p2).v (P.response p2).fs p3.length (val (p4.take 8):Nat) (val (p4.drop 8):Nat)=true
 ·have e:rQ (B p0) (B p1) (P.response p2).s (P.response p2).r (P.response p2).v (P.response p2).fs p3 (val (p4.take 8):Nat) (val (p4.drop 8):Nat)=Ent.bytes ⟨B p0,B p1,(P.response p2).s,(P.response p2).r,(P.response p2).v,(P.response p2).fs,p3,(val (p4.take 8):Nat),(val (p4.drop 8):Nat)⟩:=if_pos hok
  rw[e]
  rfl
 ·rw[if_neg (fun h=>hok h.1),if_neg (fun h=>hok h.1)]
theorem aRW (hl:p4.length=16):(xO (B p0) (B p1) (P.response p2).s (P.response p2).r (P.response p2).v (P.response p2).fs p3.length (wrap64 (val (p4.take 8):Nat)) (wrap64 (val (p4.drop 8):Nat))=0∧rQ (B p0) (B p1) (P.response p2).s (P.response p2).r (P.response p2).v (P.response p2).fs p3 (wrap64 (val (p4.take 8):Nat)) (wrap64 (val (p4.drop 8):Nat))=b∧dec b=some ⟨B p0,B p1,(P.response p2).s,(P.response p2).r,(P.response p2).v,(P.response p2).fs,p3,wrap64 (val (p4.take 8):Nat),wrap64 (val (p4.drop 8):Nat)⟩) ∨
  (¬ (xO (B p0) (B p1) (P.response p2).s (P.response p2).r (P.response p2).v (P.response p2).fs p3.length (wrap64 (val (p4.take 8):Nat)) (wrap64 (val (p4.drop 8):Nat))=0∧rQ (B p0) (B p1) (P.response p2).s (P.response p2).r (P.response p2).v (P.response p2).fs p3 (wrap64 (val (p4.take 8):Nat)) (wrap64 (val (p4.drop 8):Nat))=b)∧dec b=none):=by
 have hE:∀ x y:Int,xO (B p0) (B p1) (P.response p2).s (P.response p2).r (P.response p2).v (P.response p2).fs p3.length x y=0↔uF (B p0) (B p1) (P.response p2).s (P.response p2).r (P.response p2).v (P.response p2).fs p3.length x y=true:=fun x y=>by
  unfold xO
  split
  ·rename_i h;exact⟨fun _=>h,fun _=>rfl⟩
  ·rename_i h;exact⟨fun h0=>absurd h0 (by decide),fun h'=>absurd h' h⟩
 have hT:∀ x y:Int,uF (B p0) (B p1) (P.response p2).s (P.response p2).r (P.response p2).v (P.response p2).fs p3.length x y=true→0≤x∧x≤253402300799∧0≤y∧y≤253402300799:=fun x y h=>by
  obtain⟨_,_,_,h4,h5,h6,h7⟩:=gQ (of_decide_eq_true (show decide (F.gW _ _ _ _=0∧okE _ _ _ _ _=true)=true from h)).2
  exact⟨h4,h5,h6,h7⟩
 have h1:=wU (p4.take 8)
 have h2:=wU (p4.drop 8)
 rw[List.length_take,show min 8 p4.length=8 by omega,show (256:Nat) ^ 8=18446744073709551616 by decide]at h1
 rw[List.length_drop,show p4.length - 8=8 by omega,show (256:Nat) ^ 8=18446744073709551616 by decide]at h2
 rw[hE,aQB hp]
 generalize val (p4.take 8)=x at *
 generalize val (p4.drop 8)=y at *
 by_cases hx:x < 9223372036854775808∧y < 9223372036854775808
 ·rw[IntWalk.wrap64_in (x:Int) (by omega),IntWalk.wrap64_in (y:Int) (by omega)]
  by_cases hh:uF (B p0) (B p1) (P.response p2).s (P.response p2).r (P.response p2).v (P.response p2).fs p3.length x y=true∧rQ (B p0) (B p1) (P.response p2).s (P.response p2).r (P.response p2).v (P.response p2).fs p3 x y=b
  ·exact .inl ⟨hh.1,hh.2,if_pos hh⟩
  ·exact .inr ⟨hh,if_neg hh⟩
 ·refine .inr ⟨fun h=>?_,if_neg fun h=>?_⟩
  ·have:=hT _ _ h.1
   unfold wrap64 at this
   omega
  ·have:=hT _ _ h.1
   omega
end
theorem aLW {b rr:List UInt8} {ds:List (List UInt8)} {E:Ent} (h:Told b E) (hp:O.parts (b.drop 3) 5=some (ds,rr)):val rr=iP (b.take (b.length - 4)):=by
 obtain⟨r',h1,_,h2⟩:=h.parts 5 (zA _)
 rw[hp]at h1
 injection h1 with h1
 injection h1 with _ h1
 have hb:b=preO E.dat 5++beN (iP (preO E.dat 5)) 4:=h.pre
 have hl:=congrArg List.length hb
 rw[bC,aP]at hl
 have ht:b.take (b.length - 4)=preO E.dat 5:=by
  rw[show b.length - 4=(preO E.dat 5).length by omega]
  conv=>lhs;rw[hb]
  exact List.take_left
 rw[ht,h1,h2 rfl,jY (show iP (preO E.dat 5) < 256 ^ 4 from sum_lt _)]
theorem aBP {l:List UInt8}:∀ (k:Nat) (ds:List (List UInt8)) (r:List UInt8),parts l k=some (ds,r)→(ds.map List.length).sum+r.length≤l.length
 | 0,ds,r,h=>by
  injection h with h
  injection h with h1 h2
  rw[← h1,← h2]
  simp
 | k+1,ds,r,h=>by
  unfold parts at h
  cases hp:parts l k with
  | none=>rw[hp]at h;cases h
  | some x =>
   obtain⟨ds0,r0⟩:=x
   rw[hp]at h
   have g:=aBP k ds0 r0 hp
   cases hc:cut r0 with
   | none=>simp only[hc]at h;cases h
   | some y =>
    obtain⟨d,r'⟩:=y
    simp only[hc]at h
    obtain⟨c1,_⟩:=aKN hc
    injection h with h
    injection h with h1 h2
    rw[← h1,← h2,List.map_append,List.sum_append]
    simp only[List.map_cons,List.map_nil,List.sum_cons,List.sum_nil]
    omega
end O
theorem aH5 (A:Option Addr) (n c:Nat) (bs:List UInt8) (w:World) (hn:n≤1099511627776) (hl:bs.length=n) (hA:A=none→n=0∧c=0) (hx:Rd w A n 1 (aB bs)) :
  Calls Tryz.prog 173 #[.slice A n c] w (eP w 5 1 bs.length (aB bs)):=by
 subst hl
 cases A with
 | none =>
  obtain⟨h1,rfl⟩:=hA rfl
  have h2:bs=[]:=List.length_eq_zero_iff.1 h1
  subst h2
  have he:=fun w=>Lib.run_eql_slice_nil (P:=Tryz.prog) w 39 _ none 0 0 (h:=Tryz.underlying39)
  clear hx h1
  go_enter Tryz.func173,Tryz.ntmps173
  go_wp2
  go_ret
  exact⟨none,0,rfl,Row.none_ _ _ _ _,zB _ _⟩
 | some a =>
  have HX:=aH (hx.alloc (.cells #[] 5))
  have he:=fun w=>Lib.run_eql_slice_nil (P:=Tryz.prog) w 39 _ (some a) bs.length c (h:=Tryz.underlying39)
  clear hx
  go_enter Tryz.func173,Tryz.ntmps173
  go_wp2_with (at_builtin;refine aQ0 _ rfl (.tmp 5) (.tmp 6) rfl w.heap.size _ 0 0 [] rfl (Row.empty _ _ _ _ _) (some a) bs.length c bs rfl HX.out (by omega) (by rw[bJ];omega) ?_;intro A1 c1 w1 hr1 ha1)
  have hb:=((zB w.heap.size w).alloc (zA _) (.cells #[] 5)).trans (ha1.below (Row.empty _ w.heap.size 5 1 _) (by rw[bJ];omega))
  have e:0+bs.length=bs.length:=Nat.zero_add _
  rw[e]at hr1
  go_ret
  exact⟨A1,c1,rfl,hr1,hb⟩
theorem aH3 (A B0:Option Addr) (n c m d:Nat) (xs ys:List UInt8) (w:World) (hx:Rd w A n 1 (aB xs)) (hy:Rd w B0 m 1 (aB ys)) :
  Calls Tryz.prog 175 #[.slice A n c,.slice B0 m d] w (vX w (.bool (decide (xs=ys)))):=by
 refine (Tryz.bytes_Equal_all A B0 n c m d (ints xs) (ints ys) w (by rw[iF];exact eF hx) (by rw[iF];exact eF hy) (oQ hx) (oQ hy)).mono ?_
 rintro e w' ⟨rfl,rfl⟩
 rw[dF,dF]
 refine⟨?_,rfl⟩
 have h:(xs==ys)=decide (xs=ys):=by rw[Bool.eq_iff_iff];simp
 rw[h]
theorem yM {b o c k:Nat}:∃ a:Addr,aN5 (some ⟨b,o,none⟩) c k=some a∧a.spot=none:=by
 by_cases h:k=c
 ·exact⟨⟨b,o,none⟩,by rw[h];exact sG,rfl⟩
 ·exact⟨⟨b,o+k,none⟩,aEL h,rfl⟩
def Sl (w:World) (l:List UInt8) (v:Value):Prop :=
 ∃ A c,v=.slice A l.length c∧Rd w A l.length 1 (aB l)∧l.length≤c∧(A=none→l.length=0∧c=0)∧∀ a,A=some a→a.spot=none∨c=0
theorem Sl.below {w w':World} {l:List UInt8} {v:Value} (h:Sl w l v) (hb:Below w.heap.size w w'):Sl w' l v:=by
 obtain⟨A,c,h1,h2,h3,h4,h5⟩:=h
 exact⟨A,c,h1,h2.below hb,h3,h4,h5⟩
theorem Sl.from_ {w:World} {b o c:Nat} {l:List UInt8} (h:Rd w (some ⟨b,o,none⟩) l.length 1 (aB l)) (hc:l.length≤c) (k:Nat) (hk:k≤l.length):Sl w (l.drop k) (.slice (aN5 (some ⟨b,o,none⟩) c k) (l.length - k) (c - k)):=by
 obtain⟨a,ha,hs⟩:=yM (b:=b) (o:=o) (c:=c) (k:=k)
 refine⟨_,c - k,by rw[List.length_drop],by rw[List.length_drop];exact h.fromA hc hk,by rw[List.length_drop];omega,fun h=>(by rw[ha]at h;cases h),fun a' h=>(by rw[ha]at h;cases h;exact .inl hs)⟩
theorem Sl.upto {w:World} {A:Option Addr} {c k:Nat} {l:List UInt8} (h:Sl w l (.slice A l.length c)) (hk:k≤l.length):Sl w (l.take k) (.slice A k c):=by
 obtain⟨A',c',h1,h2,h3,h4,h5⟩:=h
 injection h1 with e1 _ e2
 subst e1 e2
 have hl:(l.take k).length=k:=by rw[List.length_take];omega
 exact⟨A,c,by rw[hl],by rw[hl];exact h2.upto hk,by omega,fun h=>(by have:=h4 h;omega),h5⟩
def aOU (w0 w:World) (l:List UInt8) (t:Nat) (e:Ending) (w':World):Prop :=
 (∃ d r v1 v2,O.cut l=some (d,r)∧(l.getD 0 0).toNat=t∧e=.returned (.tuple #[v1,v2,.bool true])∧Sl w0 d v1∧Sl w0 r v2∧Below w.heap.size w w') ∨
 ((O.cut l=none∨(l.getD 0 0).toNat≠t)∧e=.returned (.tuple #[.slice none 0 0,.slice none 0 0,.bool false])∧Below w.heap.size w w')
theorem aBQ (A:Option Addr) (c:Nat) (l:List UInt8) (t:Nat) (w0 w:World) (hw:Below w0.heap.size w0 w) (hn:l.length≤1073741824) (hc:l.length≤c) (ht:t < 256) (hx0:Rd w0 A l.length 1 (aB l)) :
  Calls Tryz.prog 191 #[.slice A l.length c,.int .i64 t] w (aOU w0 w l t):=by
 have hx:=hx0.below hw
 by_cases h5:l.length < 5
 ·have HF:Hid (O.cut l=none):=aH (if_pos h5)
  have h5i:(l.length:Int) < 5:=by omega
  go_enter Tryz.func191,Tryz.ntmps191
  go_wp2
  refine bK (v:=.tuple #[.slice none 0 0,.slice none 0 0,.bool false]) (by simp [results,Tryz.results191,go_sem]) rfl ?_
  exact .inr ⟨.inl HF.out,rfl,zB _ _⟩
 ·obtain⟨b,o,rfl,_,hcs⟩:=hx.2 (by omega)
  have h5i:¬ (l.length:Int) < 5:=by omega
  have h0:0 < l.length:=by omega
  have hce:w.cell? ⟨b,o,none⟩=some (.int .u8 (l.getD 0 0).toNat):=by
   obtain⟨b',o',e,_,q⟩:=hx.byte h0 rfl
   cases e
   rw[show l.getD 0 0=l[0]'h0 by simp [List.getD,h0]]
   exact q
  obtain⟨y,hy⟩:∃ y,l.getD 0 0=y:=⟨_,rfl⟩
  rw[hy]at hce
  have HY:=aH hy
  have hyl:=y.toNat_lt
  have hlen4:((l.drop 1).take 4).length=4:=by rw[List.length_take,List.length_drop];omega
  have HG:=aH (show Calls Tryz.prog 174 #[.slice (some ⟨b,o+1,none⟩) 4 (c - 1)] w (vX w (.int .i64 (wrap64 (O.val ((l.drop 1).take 4):Nat)))) from by
   have:=aFP (some ⟨b,o+1,none⟩) (c - 1) ((l.drop 1).take 4) w (by omega) (by rw[hlen4];exact (hx.from_ (show 1≤l.length by omega)).upto (by omega))
   rwa [hlen4]at this)
  have hvl:=O.wU ((l.drop 1).take 4)
  rw[hlen4,show (256:Nat) ^ 4=4294967296 from by decide]at hvl
  have HCUT:Hid (O.cut l=if l.length - 5 < O.val ((l.drop 1).take 4) then none else some ((l.drop 5).take (O.val ((l.drop 1).take 4)),(l.drop 5).drop (O.val ((l.drop 1).take 4)))):=aH (by unfold O.cut;rw[if_neg h5])
  have HX:=aH hx0
  generalize O.val ((l.drop 1).take 4)=v at *
  have hwr:wrap64 (v:Int)=(v:Int):=IntWalk.wrap64_in _ (by omega)
  rw[hwr]at HG
  have hli:(4:Int)≤c - 1:=by omega
  have h1c:¬ (1:Int)=(c:Int):=by omega
  have h15:(5:Int)≤(c:Int):=by omega
  have h55:(5:Int)≤(l.length:Int):=by omega
  clear hx hcs hy hwr
  go_enter Tryz.func191,Tryz.ntmps191
  by_cases hyt:y.toNat=t
  ·have hyi:((y.toNat:Int) != (t:Int))=false:=by rw[bne_eq_false_iff_eq];omega
   go_wp2_with fail
   refine HG.out.mono ?_
   rintro e w' ⟨rfl,rfl⟩
   clear HG hce
   by_cases hc5:c=5
   ·have hl5:l.length=5:=by omega
    have HS5:Hid (Sl w0 (l.drop 5) (.slice (some ⟨b,o,none⟩) 0 0)):=aH (by
     have:=Sl.from_ HX.out hc 5 (by omega)
     rw[hc5,hl5,sG]at this
     exact this)
    by_cases hv:v=0
    ·have HF:Hid (O.cut l=some ([],l.drop 5)):=aH (by rw[HCUT.out,if_neg (by omega),hv];rfl)
     subst hv
     rw[hl5,hc5]
     go_wp2_with fail
     go_region
     go_wp2
     have hb:Below w.heap.size w w.drew:=(zB _ _).drew
     refine bK (v:=.tuple #[.slice (some ⟨b,o,none⟩) 0 0,.slice (some ⟨b,o,none⟩) 0 0,.bool true]) (by simp [results,Tryz.results191,go_sem]) rfl ?_
     refine .inl ⟨[],l.drop 5,_,_,HF.out,by rw[HY.out];exact hyt,rfl,?_,HS5.out,hb⟩
     exact⟨_,0,rfl,Rd.nil _ _ _,zA _,(fun h=>by cases h),(fun a h=>by cases h;exact .inl rfl)⟩
    ·have HF:Hid (O.cut l=none):=aH (by rw[HCUT.out,if_pos (by omega)])
     rw[hl5,hc5]
     go_wp2
     refine bK (v:=.tuple #[.slice none 0 0,.slice none 0 0,.bool false]) (by simp [results,Tryz.results191,go_sem]) rfl ?_
     exact .inr ⟨.inl HF.out,rfl,zB _ _⟩
   ·have h5c:(5:Int) < (c:Int):=by omega
    have hr5:Rd w0 (some ⟨b,o+5,none⟩) (l.length - 5) 1 (aB (l.drop 5)):=HX.out.from_ (by omega)
    have hd5:(l.drop 5).length=l.length - 5:=List.length_drop
    by_cases hv:l.length - 5 < v
    ·have HF:Hid (O.cut l=none):=aH (by rw[HCUT.out,if_pos hv])
     have hvi:(l.length:Int) - 5 < (v:Int):=by omega
     go_wp2
     refine bK (v:=.tuple #[.slice none 0 0,.slice none 0 0,.bool false]) (by simp [results,Tryz.results191,go_sem]) rfl ?_
     exact .inr ⟨.inl HF.out,rfl,zB _ _⟩
    ·have hvi:¬ (l.length:Int) - 5 < (v:Int):=by omega
     have HF:Hid (O.cut l=some ((l.drop 5).take v,(l.drop 5).drop v)):=aH (by rw[HCUT.out,if_neg hv])
     have HSD:Hid (Sl w0 ((l.drop 5).take v) (.slice (some ⟨b,o+5,none⟩) v (c - 5))):=aH (by
      have h1:Sl w0 (l.drop 5) (.slice (some ⟨b,o+5,none⟩) (l.drop 5).length (c - 5)):=⟨_,_,rfl,by rw[hd5];exact hr5,by omega,(fun h=>by cases h),(fun a h=>by cases h;exact .inl rfl)⟩
      exact h1.upto (by omega))
     have HSR:Hid (Sl w0 ((l.drop 5).drop v) (.slice (aN5 (some ⟨b,o+5,none⟩) (c - 5) v) (l.length - 5 - v) (c - 5 - v))):=aH (by
      have:=(Sl.from_ (c:=c - 5) (show Rd w0 (some ⟨b,o+5,none⟩) (l.drop 5).length 1 (aB (l.drop 5)) by rw[hd5];exact hr5) (by omega) v (by omega))
      rwa [hd5]at this)
     have hvc:(v:Int)≤(c:Int) - 5:=by omega
     have hvl2:(v:Int)≤(l.length:Int) - 5:=by omega
     clear hr5 hd5 hv
     by_cases hvk:v=c - 5
     ·subst hvk
      rw[sG,Nat.sub_self]at HSR
      go_wp2_with fail
      go_region
      go_wp2
      have hb:Below w.heap.size w w.drew:=(zB _ _).drew
      refine bK (v:=.tuple #[.slice (some ⟨b,o+5,none⟩) (c - 5) (c - 5),.slice (some ⟨b,o+5,none⟩) (l.length - 5 - (c - 5)) 0,.bool true]) (by simp [results,Tryz.results191,go_sem]) rfl ?_
      exact .inl ⟨_,_,_,_,HF.out,by rw[HY.out];exact hyt,rfl,HSD.out,HSR.out,hb⟩
     ·rw[aEL hvk]at HSR
      have hck:(v:Int) < (c:Int) - 5:=by omega
      go_wp2_with fail
      go_region
      go_wp2
      have hb:Below w.heap.size w w.drew:=(zB _ _).drew
      refine bK (v:=.tuple #[.slice (some ⟨b,o+5,none⟩) v (c - 5),.slice (some ⟨b,o+5+v,none⟩) (l.length - 5 - v) (c - 5 - v),.bool true]) (by simp [results,Tryz.results191,go_sem]) rfl ?_
      exact .inl ⟨_,_,_,_,HF.out,by rw[HY.out];exact hyt,rfl,HSD.out,HSR.out,hb⟩
  ·have hyi:((y.toNat:Int) != (t:Int))=true:=by rw[bne_iff_ne];omega
   go_wp2
   refine bK (v:=.tuple #[.slice none 0 0,.slice none 0 0,.bool false]) (by simp [results,Tryz.results191,go_sem]) rfl ?_
   exact .inr ⟨.inr (by rw[HY.out];exact hyt),rfl,zB _ _⟩
section
variable {w:World} {b:Nat} {t:TypeId} {x0 x1 x2 x3 x4 x5 x6 x7 x8:Value}
theorem Blk.free9 {cs:Array Value} (h:Blk w b cs t):w.frozen? ⟨b,0,none⟩=false∧w.frozen? ⟨b,1,none⟩=false∧w.frozen? ⟨b,2,none⟩=false∧w.frozen? ⟨b,3,none⟩=false∧w.frozen? ⟨b,4,none⟩=false∧w.frozen? ⟨b,5,none⟩=false∧w.frozen? ⟨b,6,none⟩=false∧w.frozen? ⟨b,7,none⟩=false∧w.frozen? ⟨b,8,none⟩=false:=⟨h.free 0,h.free 1,h.free 2,h.free 3,h.free 4,h.free 5,h.free 6,h.free 7,h.free 8⟩
def nine (w:World) (b:Nat) (y0 y1 y2 y3 y4 y5 y6 y7 y8:Value):World:=(((((((((w.setCell ⟨b,0,none⟩ (y0)).setCell ⟨b,1,none⟩ (y1)).setCell ⟨b,2,none⟩ (y2)).setCell ⟨b,3,none⟩ (y3)).setCell ⟨b,4,none⟩ (y4)).setCell ⟨b,5,none⟩ (y5)).setCell ⟨b,6,none⟩ (y6)).setCell ⟨b,7,none⟩ (y7)).setCell ⟨b,8,none⟩ (y8))
theorem Blk.set9 (h:Blk w b #[x0,x1,x2,x3,x4,x5,x6,x7,x8] t) (y0 y1 y2 y3 y4 y5 y6 y7 y8:Value):Blk (nine w b y0 y1 y2 y3 y4 y5 y6 y7 y8) b #[y0,y1,y2,y3,y4,y5,y6,y7,y8] t:=by
 have h0:Blk (w.setCell ⟨b,0,none⟩ (y0)) b #[y0,x1,x2,x3,x4,x5,x6,x7,x8] t:=h.set 0 y0
 have h1:Blk ((w.setCell ⟨b,0,none⟩ (y0)).setCell ⟨b,1,none⟩ (y1)) b #[y0,y1,x2,x3,x4,x5,x6,x7,x8] t:=h0.set 1 y1
 have h2:Blk (((w.setCell ⟨b,0,none⟩ (y0)).setCell ⟨b,1,none⟩ (y1)).setCell ⟨b,2,none⟩ (y2)) b #[y0,y1,y2,x3,x4,x5,x6,x7,x8] t:=h1.set 2 y2
 have h3:Blk ((((w.setCell ⟨b,0,none⟩ (y0)).setCell ⟨b,1,none⟩ (y1)).setCell ⟨b,2,none⟩ (y2)).setCell ⟨b,3,none⟩ (y3)) b #[y0,y1,y2,y3,x4,x5,x6,x7,x8] t:=h2.set 3 y3
 have h4:Blk (((((w.setCell ⟨b,0,none⟩ (y0)).setCell ⟨b,1,none⟩ (y1)).setCell ⟨b,2,none⟩ (y2)).setCell ⟨b,3,none⟩ (y3)).setCell ⟨b,4,none⟩ (y4)) b #[y0,y1,y2,y3,y4,x5,x6,x7,x8] t:=h3.set 4 y4
 have h5:Blk ((((((w.setCell ⟨b,0,none⟩ (y0)).setCell ⟨b,1,none⟩ (y1)).setCell ⟨b,2,none⟩ (y2)).setCell ⟨b,3,none⟩ (y3)).setCell ⟨b,4,none⟩ (y4)).setCell ⟨b,5,none⟩ (y5)) b #[y0,y1,y2,y3,y4,y5,x6,x7,x8] t:=h4.set 5 y5
 have h6:Blk (((((((w.setCell ⟨b,0,none⟩ (y0)).setCell ⟨b,1,none⟩ (y1)).setCell ⟨b,2,none⟩ (y2)).setCell ⟨b,3,none⟩ (y3)).setCell ⟨b,4,none⟩ (y4)).setCell ⟨b,5,none⟩ (y5)).setCell ⟨b,6,none⟩ (y6)) b #[y0,y1,y2,y3,y4,y5,y6,x7,x8] t:=h5.set 6 y6
 have h7:Blk ((((((((w.setCell ⟨b,0,none⟩ (y0)).setCell ⟨b,1,none⟩ (y1)).setCell ⟨b,2,none⟩ (y2)).setCell ⟨b,3,none⟩ (y3)).setCell ⟨b,4,none⟩ (y4)).setCell ⟨b,5,none⟩ (y5)).setCell ⟨b,6,none⟩ (y6)).setCell ⟨b,7,none⟩ (y7)) b #[y0,y1,y2,y3,y4,y5,y6,y7,x8] t:=h6.set 7 y7
 have h8:Blk (((((((((w.setCell ⟨b,0,none⟩ (y0)).setCell ⟨b,1,none⟩ (y1)).setCell ⟨b,2,none⟩ (y2)).setCell ⟨b,3,none⟩ (y3)).setCell ⟨b,4,none⟩ (y4)).setCell ⟨b,5,none⟩ (y5)).setCell ⟨b,6,none⟩ (y6)).setCell ⟨b,7,none⟩ (y7)).setCell ⟨b,8,none⟩ (y8)) b #[y0,y1,y2,y3,y4,y5,y6,y7,y8] t:=h7.set 8 y8
 exact h8
theorem Blk.far9 {cs:Array Value} {b2:Nat} (h:Blk w b2 cs t) (hne:b≠b2) (y0 y1 y2 y3 y4 y5 y6 y7 y8:Value):Blk (nine w b y0 y1 y2 y3 y4 y5 y6 y7 y8) b2 cs t:=(((((((((h.far 0 y0 hne).far 1 y1 hne).far 2 y2 hne).far 3 y3 hne).far 4 y4 hne).far 5 y5 hne).far 6 y6 hne).far 7 y7 hne).far 8 y8 hne)
theorem Row.farT9 {base:Nat} {e:TypeId} {size n c:Nat} {A:Option Addr} {vs:List Value} {cs:Array Value} (h:Row w base e size A n c vs) (hb:Blk w b cs t) (hne:t≠e) (y0 y1 y2 y3 y4 y5 y6 y7 y8:Value):Row (nine w b y0 y1 y2 y3 y4 y5 y6 y7 y8) base e size A n c vs:=(((((((((h.farT hb hne 0 y0).farT (hb.set 0 y0) hne 1 y1).farT ((hb.set 0 y0).set 1 y1) hne 2 y2).farT (((hb.set 0 y0).set 1 y1).set 2 y2) hne 3 y3).farT ((((hb.set 0 y0).set 1 y1).set 2 y2).set 3 y3) hne 4 y4).farT (((((hb.set 0 y0).set 1 y1).set 2 y2).set 3 y3).set 4 y4) hne 5 y5).farT ((((((hb.set 0 y0).set 1 y1).set 2 y2).set 3 y3).set 4 y4).set 5 y5) hne 6 y6).farT (((((((hb.set 0 y0).set 1 y1).set 2 y2).set 3 y3).set 4 y4).set 5 y5).set 6 y6) hne 7 y7).farT ((((((((hb.set 0 y0).set 1 y1).set 2 y2).set 3 y3).set 4 y4).set 5 y5).set 6 y6).set 7 y7) hne 8 y8)
theorem aN {B:Nat} {a:World} (h:Below B a w) (hb:B≤b) (y0 y1 y2 y3 y4 y5 y6 y7 y8:Value):Below B a (nine w b y0 y1 y2 y3 y4 y5 y6 y7 y8):=(aK (aK (aK (aK (aK (aK (aK (aK (aK h hb 0 y0) hb 1 y1) hb 2 y2) hb 3 y3) hb 4 y4) hb 5 y5) hb 6 y6) hb 7 y7) hb 8 y8)
end
theorem five {α:Type} {l:List α} (h:l.length=5):∃ a b c d e,l=[a,b,c,d,e]:=by
 match l,h with
 | [a,b,c,d,e],_=>exact⟨a,b,c,d,e,rfl⟩
theorem Row.five {w:World} {base c:Nat} {e:TypeId} {A:Option Addr} {vs:List Value} (h:Row w base e 1 A 5 c vs):∃ g,A=some ⟨g,0,none⟩∧base≤g∧g < w.heap.size:=by
 obtain⟨b,o,hA,hb,_⟩:=h.rd.2 (by decide)
 have hc:=h.cap.1
 rcases h with h | ⟨h,_⟩
 ·rcases h.2 with ⟨_,h⟩ | ⟨g,cap,cur,h1,h2,h3,_⟩
  ·cases h
  ·injection h1 with h1 _ _
   exact⟨g,h1,h2,(Array.getElem?_eq_some_iff.1 h3).1⟩
 ·cases h
theorem Row.five5 {w:World} {base c g:Nat} {e:TypeId} {v0 v1 v2 v3 v4:Value} (h:Row w base e 1 (some ⟨g,0,none⟩) 5 c [v0,v1,v2,v3,v4]) :
  w.cell? ⟨g,0,none⟩=some v0∧w.cell? ⟨g,1,none⟩=some v1∧w.cell? ⟨g,2,none⟩=some v2∧w.cell? ⟨g,3,none⟩=some v3∧w.cell? ⟨g,4,none⟩=some v4:=by
 obtain⟨b,o,hA,_,hc⟩:=h.rd.2 (by decide)
 cases hA
 have h0:=hc 0 v0 rfl
 have h1:=hc 1 v1 rfl
 have h2:=hc 2 v2 rfl
 have h3:=hc 3 v3 rfl
 have h4:=hc 4 v4 rfl
 simp only[Nat.zero_add]at h0 h1 h2 h3 h4
 exact⟨h0,h1,h2,h3,h4⟩
theorem neER:41≠38:=by decide
theorem aOK:41≠60:=by decide
theorem aOJ:41≠5:=by decide
theorem neES:41≠39:=by decide
def aLC (w:World) (l:List UInt8) (e:Ending) (w':World):Prop :=
 (∃ (E:O.Ent) (A:Option Addr) (c:Nat) (X:Option Addr) (d:Nat),O.dec l=some E∧e=.returned (.tuple #[.agg #[.string E.k,.string E.v,.int .i64 E.s,.string E.r,.int .i64 E.m,.slice A E.fs.length c,.slice X E.body.length d,.int .i64 E.asked,.int .i64 E.got],.int .i64 0]) ∧
  Row w' w.heap.size 60 2 A E.fs.length c (aJ E.fs)∧Row w' w.heap.size 5 1 X E.body.length d (aB E.body)∧Below w.heap.size w w') ∨
 (O.dec l=none∧e=.returned (.tuple #[.agg #[.string ⟨#[]⟩,.string ⟨#[]⟩,.int .i64 0,.string ⟨#[]⟩,.int .i64 0,.slice none 0 0,.slice none 0 0,.int .i64 0,.int .i64 0],.int .i64 120])∧Below w.heap.size w w')
namespace O
def Ent.zero:Ent:=⟨⟨#[]⟩,⟨#[]⟩,0,⟨#[]⟩,0,[],[],0,0⟩
def entU (l:List UInt8):Ent:=(dec l).getD Ent.zero
def aQG (l:List UInt8):Int:=if (dec l).isSome=true then 0 else 120
theorem nK (k v:ByteArray) (s:Int) (r:ByteArray) (m:Int) (fs:List FD) (body:List UInt8) (asked got:Int) :
  (xO k v s r m fs body.length asked got=0∧dec (rQ k v s r m fs body asked got)=some ⟨k,v,s,r,m,fs,body,asked,got⟩)∨(xO k v s r m fs body.length asked got=120∧rQ k v s r m fs body asked got=[]):=by
 unfold xO rQ
 by_cases h:uF k v s r m fs body.length asked got=true
 ·rw[if_pos h,if_pos h]
  exact .inl ⟨rfl,aNJ (E:=⟨k,v,s,r,m,fs,body,asked,got⟩) h rfl⟩
 ·rw[if_neg h,if_neg h]
  exact .inr ⟨rfl,rfl⟩
theorem dec_enc {b:List UInt8} {E:Ent} (h:dec b=some E):xO E.k E.v E.s E.r E.m E.fs E.body.length E.asked E.got=0∧rQ E.k E.v E.s E.r E.m E.fs E.body E.asked E.got=b:=by
 obtain⟨h1,h2,_⟩:=gB h
 exact⟨if_pos h1,(if_pos h1).trans h2⟩
end O
def RetEn (w:World) (E:O.Ent) (code:Int) (e:Ending) (w':World):Prop :=
 ∃ (A:Option Addr) (c:Nat) (X:Option Addr) (d:Nat),e=.returned (.tuple #[.agg #[.string E.k,.string E.v,.int .i64 E.s,.string E.r,.int .i64 E.m,.slice A E.fs.length c,.slice X E.body.length d,.int .i64 E.asked,.int .i64 E.got],.int .i64 code]) ∧
  Row w' w.heap.size 60 2 A E.fs.length c (aJ E.fs)∧bZ w' w.heap.size X E.body.length d E.body∧Below w.heap.size w w'
theorem aLC.u {w w':World} {l:List UInt8} {e:Ending} (h:aLC w l e w'):RetEn w (O.entU l) (O.aQG l) e w':=by
 rcases h with ⟨E,A,c,X,d,hd,he,hr,hc,hb⟩ | ⟨hd,he,hb⟩
 ·unfold O.entU O.aQG
  rw[hd]
  exact⟨A,c,X,d,he,hr,hc.crow,hb⟩
 ·unfold O.entU O.aQG
  rw[hd]
  exact⟨none,0,none,0,he,Row.none_ _ _ _ _,bZ.none_ _ _,hb⟩
end Go.Proofs.YthjeglnkgdpijaaGreatDoor
