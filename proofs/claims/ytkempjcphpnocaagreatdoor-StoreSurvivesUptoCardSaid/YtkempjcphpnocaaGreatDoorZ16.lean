/- The walks of fields.Values and its document's twin. The walks of the document's List; of fields.Tokens and its twin; of the document's Values. The walk of head.Request. Conditions: a row of at most 2^30 bytes; the library's two tables of UTF-8 as its text lays them; internal/bytealg.MaxLen holds some number. What head.Response computes, as a plain function; what is told of some bytes is told of them with more behind, and a head is told when its last byte has come. No program here. The walks of fields.Without, with the library's Clone, DeleteFunc, IndexFunc, ContainsFunc at its closures. The walk of the library's DeleteFunc at fields.Without's closure; fields.Without. The walk of the document's Without. The walks of hop.Strip and of its document's twin. The walks of fields.Print and of the document's. Condition: a list of bulk at most 2^30. -/
import Derived.Test.YtkempjcphpnocaaGreatDoorHeadB
import Derived.Deep.CutBlock
import Derived.Deep.RegionHeld3
namespace Go.Proofs.YtkempjcphpnocaaGreatDoor
open Go.RowKit
def FSmall (fs:List FD):Prop:=∀ f∈fs,f.1.size≤1099511627776∧f.2.size≤1099511627776
end Go.Proofs.YtkempjcphpnocaaGreatDoor
namespace Go.Proofs.YtkempjcphpnocaaGreatDoor
open Go.RowKit
namespace P
theorem upto_le (p:UInt8→Bool) (l:List UInt8):(upto p l).length≤l.length:=by have:=upto_len p l;omega
theorem methodOf_le (l:List UInt8):(methodOf l).length≤l.length:=upto_le _ _
theorem behind_le (l:List UInt8):(behind l).length≤l.length:=by
 unfold behind
 rw[List.length_drop]
 have:=upto_len sp l
 omega
theorem hLine_le (b:List UInt8) (s:Nat):(hLine b s).length≤b.length:=by
 unfold hLine hText
 rw[List.length_take,List.length_take,List.length_drop]
 omega
end P
def RetReq (w:World) (r:P.RQ) (e:Ending) (w':World):Prop :=
 ∃ A c,e=.returned (.tuple #[.agg #[.string r.m,.string r.t,.int .i64 r.v,.slice A r.fs.length c],.int .i64 r.n,.int .i64 r.e])∧Row w' w.heap.size 167 2 A r.fs.length c (fcells r.fs)∧Below w.heap.size w w'
theorem RetReq.bad {w w':World} {r:P.RQ} {code:Int} (hb:Below w.heap.size w w') (h:r=.bad code):RetReq w r (.returned (.tuple #[.agg #[.string ⟨#[]⟩,.string ⟨#[]⟩,.int .i64 0,.slice none 0 0],.int .i64 0,.int .i64 code])) w':=by
 subst h
 exact⟨none,0,rfl,Row.empty _ _ _ _ _,hb⟩
end Go.Proofs.YtkempjcphpnocaaGreatDoor
namespace Go.Proofs.YtkempjcphpnocaaGreatDoor
namespace P
open T (Bs)
structure RS where
 s:Int
 r:ByteArray
 v:Int
 fs:List FD
 n:Int
 e:Int
def RS.bad (e:Int):RS:=⟨0,⟨#[]⟩,0,[],0,e⟩
def code3 (l:Bs):Bool:=decide (l.length=3)&&l.all dig
def stat (l:Bs):Int:=l.foldl (fun a c=>a * 10+((c.toNat:Int) - 48)) 0
def respOf (line block:Bs) (n:Int):RS :=
 if verE (methodOf line)=50∨code3 (methodOf (behind line))=false∨F.text (B (behind (behind line)))=false then .bad 50
 else if verE (methodOf line)=0∧(stat (methodOf (behind line)) < 100∨599 < stat (methodOf (behind line))) then .bad 53
 else if verE (methodOf line)≠0 then .bad (verE (methodOf line))
 else if (parse [] block).2≠0 then .bad (parse [] block).2
 else ⟨stat (methodOf (behind line)),B (behind (behind line)),verN (methodOf line),(parse [] block).1,n,0⟩
def response (b:Bs):RS:=if hE b 0≠0∨hN b 0=0 then .bad (hE b 0) else respOf (hLine b 0) (hBlock b 0) (hN b 0)
theorem upto_app (p:UInt8→Bool):∀ (u:Bs) (x:UInt8) (r:Bs),(∀ y∈u,p y=false)→p x=true→upto p (u++x::r)=u∧from_ p (u++x::r)=x::r
 | [],x,r,_,hx=>by simp [upto,from_,hx]
 | y::u,x,r,hu,hx=>by
  have hy:p y=false:=hu y (by simp)
  have:=upto_app p u x r (fun z hz=>hu z (by simp [hz])) hx
  unfold upto from_ at this ⊢
  simp only[List.cons_append,List.takeWhile_cons,List.dropWhile_cons,hy,Bool.not_false,if_true]
  exact⟨by rw[this.1],this.2⟩
theorem occAt_iff {s sub:Bs} {j:Nat}:Lib.occAt s sub j=true↔sub=(s.take (j+sub.length)).drop j:=by
 unfold Lib.occAt
 rw[List.isPrefixOf_iff_prefix,List.prefix_iff_eq_take,List.take_drop]
theorem occAt_take {xs ys sub:Bs} {j m:Nat} (h:ys.take m=xs.take m) (hj:j+sub.length≤m):Lib.occAt ys sub j=Lib.occAt xs sub j:=by
 have e:ys.take (j+sub.length)=xs.take (j+sub.length):=by
  have:=congrArg (List.take (j+sub.length)) h
  rwa [List.take_take,List.take_take,Nat.min_eq_left hj]at this
 rw[Bool.eq_iff_iff,occAt_iff,occAt_iff,e]
theorem index_front {xs ys sub:Bs} {i m:Nat} (h:ys.take m=xs.take m) (hi:Lib.index xs sub=(i:Int)) (hm:i+sub.length≤m) (hy:m≤ys.length):Lib.index ys sub=(i:Int):=by
 rcases Lib.index_spec xs sub with ⟨h1,_⟩ | ⟨k,h1,h2,h3,h4⟩
 ·omega
 ·obtain rfl:k=i:=by omega
  refine Lib.index_hit (fun j hj=>?_) (by omega) ?_
  ·rw[occAt_take h (by omega)];exact h4 j hj
  ·rw[occAt_take h hm];exact h3
theorem drop_take_eq {xs ys:Bs} {m s:Nat} (h:ys.take m=xs.take m):(ys.drop s).take (m - s)=(xs.drop s).take (m - s):=by
 rw[← List.drop_take,← List.drop_take,h]
theorem idx_front {b b':Bs} {s i m:Nat} (h:b'.take m=b.take m) (hi:hIdx b s=(i:Int)) (hm:s+i+4≤m) (hb:m≤b'.length):hIdx b' s=(i:Int)∧hText b' s=hText b s∧hE b' s=hE b s∧hN b' s=hN b s:=by
 have h0:hIdx b' s=(i:Int):=index_front (m:=m - s) (drop_take_eq h) hi (by show i+4≤_;omega) (by rw[List.length_drop];omega)
 refine⟨h0,?_,?_,?_⟩
 ·unfold hText
  rw[h0,hi]
  have e:=congrArg (List.take ((i:Int)+2).toNat) (drop_take_eq (s:=s) h)
  rwa [List.take_take,List.take_take,Nat.min_eq_left (by omega)]at e
 ·unfold hE
  have hneg:¬ (i:Int) < 0:=by omega
  rw[h0,hi,if_neg hneg,if_neg hneg]
 ·unfold hN
  rw[h0,hi]
theorem idx_cases (b:Bs) (s:Nat):hIdx b s < 0∨∃ i:Nat,hIdx b s=(i:Int)∧s+i+4≤b.length:=by
 rcases (by omega:hIdx b s < 0∨0≤hIdx b s) with h | h
 ·exact .inl h
 ·obtain⟨i,j,hi,hr,_⟩:=hText_facts b s h
  exact .inr ⟨i,hi,hr⟩
theorem hE_no {b:Bs} {s:Nat} (h:hIdx b s < 0):hE b s=if b.length < 8192 then 0 else 51:=if_pos h
theorem hN_no {b:Bs} {s:Nat} (h:hIdx b s < 0):hN b s=0:=if_pos (.inl h)
theorem response_no {b:Bs} (h:hIdx b 0 < 0):response b=.bad (hE b 0):=if_pos (.inr (hN_no h))
end P
end Go.Proofs.YtkempjcphpnocaaGreatDoor
namespace Go.Proofs.YtkempjcphpnocaaGreatDoor
open Go.RowKit
def NSmall (ns:List ByteArray):Prop:=∀ s∈ns,s.size≤1099511627776
def among (ns:List ByteArray) (f:FD):Bool:=ns.any fun n=>F.is f n
structure Names (w0:World) (X:Option Addr) (m d:Nat) (ns:List ByteArray) (g:Nat):Prop where
 hm:m≤1099511627776
 hl:ns.length=m
 hn:NSmall ns
 hx:Rd w0 X m 1 (scells ns)
 c0:w0.cell? ⟨g,0,none⟩=some (.slice X m d)
end Go.Proofs.YtkempjcphpnocaaGreatDoor
namespace Go.Proofs.YtkempjcphpnocaaGreatDoor
open Go.RowKit
def kept (p:FD→Bool) (fs:List FD):List FD:=fs.filter fun f=>!p f
theorem kept_snoc (p:FD→Bool) (fs:List FD) (k:Nat) (h:k < fs.length):kept p (fs.take (k+1))=kept p (fs.take k)++(if p fs[k] then [] else [fs[k]]):=by
 unfold kept
 rw[F.filter_snoc _ _ _ h]
 congr 1
 by_cases hp:p fs[k]=true<;>simp [hp]
def Moved (p:FD→Bool) (fs xs:List FD) (i j:Nat):Prop:=xs.length=fs.length∧i < j∧j≤fs.length∧xs.take i=kept p (fs.take j)∧xs.drop j=fs.drop j
theorem Moved.at_ {p:FD→Bool} {fs xs:List FD} {i j:Nat} (h:Moved p fs xs i j) (hj:j < fs.length):∃ hx:j < xs.length,xs[j]=fs[j]:=by
 have hx:j < xs.length:=by rw[h.1];exact hj
 refine⟨hx,?_⟩
 have:=h.2.2.2.2
 rw[List.drop_eq_getElem_cons hx,List.drop_eq_getElem_cons hj]at this
 injection this
theorem Moved.skip {p:FD→Bool} {fs xs:List FD} {i j:Nat} (h:Moved p fs xs i j) (hj:j < fs.length) (hp:p fs[j]=true):Moved p fs xs i (j+1):=by
 obtain⟨h1,h2,h3,h4,h5⟩:=h
 refine⟨h1,by omega,by omega,?_,?_⟩
 ·rw[kept_snoc p fs j hj,if_pos hp,List.append_nil];exact h4
 ·rw[← List.drop_drop,← List.drop_drop,h5]
theorem Row.nil {w:World} {base:Nat} {e:TypeId} {size:Nat} {A:Option Addr} {n c:Nat} {xs:List Value} (h:Row w base e size A n c xs) (hA:A=none):n=0∧c=0:=by
 subst hA
 rcases h with ⟨_,h | ⟨g,cap,cur,hv,_⟩⟩ | ⟨h1,h2,_⟩
 ·obtain⟨hv,h0⟩:=h
  cases hv
  exact⟨rfl,rfl⟩
 ·cases hv
 ·exact⟨h1,h2⟩
end Go.Proofs.YtkempjcphpnocaaGreatDoor
namespace Go.Proofs.YtkempjcphpnocaaGreatDoor
open Go.RowKit
theorem small_of_bulk {fs:List FD} (h:F.bulk fs≤1073741824):FSmall fs:=fun f hf=>by
 have:=F.mem_bulk hf
 omega
end Go.Proofs.YtkempjcphpnocaaGreatDoor
namespace Go.Proofs.YtkempjcphpnocaaGreatDoor
open Go.RowKit
def RetBE (w:World) (bs:List UInt8) (code:Int) (e:Ending) (w':World):Prop :=
 ∃ A c,e=.returned (.tuple #[.slice A bs.length c,.int .i64 code])∧CRow w' w.heap.size A bs.length c bs∧Below w.heap.size w w'
theorem RetBE.none_ {w w':World} {code:Int} {bs:List UInt8} {c:Int} (hb:Below w.heap.size w w') (h1:bs=[]) (h2:c=code):RetBE w bs c (.returned (.tuple #[.slice none 0 0,.int .i64 code])) w':=by
 subst h1
 subst h2
 exact⟨none,0,rfl,CRow.none_ _ _,hb⟩
theorem buffer_below {B b:Nat} {bs:List Value} {w w':World} (h:Lib.IsBuffer 213 5 B b bs w) (hb:Below w.heap.size w w'):Lib.IsBuffer 213 5 B b bs w':=by
 have hlt:=h.lt
 obtain⟨hB,v,lr,hk,ho,hne⟩:=h
 refine⟨hB,v,lr,(hb.block b hlt).trans hk,ho.kept (row:=none) ⟨hb.os,hb.tape,hb.output,hb.size,fun k hk _=>hb.block k hk⟩ ?_,hne⟩
 cases v.ownBlock<;>simp
theorem row_of_own {w:World} {B n:Nat} {v:Value} {bs:List Value} (h:w.ownsRow B 5 1 v n bs):∃ A c,v=.slice A n c∧Row w B 5 1 A n c bs:=by
 obtain⟨h1,h2⟩:=h
 rcases h2 with ⟨hv,h0⟩ | ⟨g,cap,cur,hv,r⟩
 ·subst h0
  exact⟨none,0,hv,.inl ⟨h1,.inl ⟨hv ▸ hv,rfl⟩⟩⟩
 ·subst hv
  exact⟨_,_,rfl,.inl ⟨h1,.inr ⟨g,cap,cur,rfl,r⟩⟩⟩
def Well (fs:List FD) (k:Nat):Prop:=(fs.take k).all F.okF=true
theorem Well.step {fs:List FD} {k:Nat} (h:Well fs k) (hk:k < fs.length) (h1:T.token (L (fs[k]).1)=true) (h2:F.good (fs[k]).2=true):Well fs (k+1):=by
 unfold Well at *
 rw[F.all_take_succ _ _ _ hk,h]
 unfold F.okF
 rw[h1,h2]
 rfl
theorem ok_no1 {fs:List FD} {k:Nat} (hk:k < fs.length) (h1:T.token (L (fs[k]).1)=false):fs.all F.okF=false:=F.all_false_at _ _ k hk (by unfold F.okF;rw[h1];rfl)
theorem ok_no2 {fs:List FD} {k:Nat} (hk:k < fs.length) (h1:F.good (fs[k]).2=false):fs.all F.okF=false:=F.all_false_at _ _ k hk (by unfold F.okF;rw[h1,Bool.and_false])
theorem bad_print {fs:List FD} (h:fs.all F.okF=false):F.printB fs=[]∧F.printE fs=40:=⟨F.printB_bad (by rw[F.printE_bad h];decide),F.printE_bad h⟩
theorem many_print {fs:List FD} (h:fs.all F.okF=true) (h2:100 < fs.length):F.printB fs=[]∧F.printE fs=42:=⟨F.printB_bad (by rw[F.printE_many h h2];decide),F.printE_many h h2⟩
theorem good_print {fs:List FD} (h:fs.all F.okF=true) (h2:¬ 100 < fs.length):F.printB fs=F.lines fs∧F.printE fs=0:=⟨F.printB_ok (F.printE_ok h h2),F.printE_ok h h2⟩
theorem line_eq (f:FD):L (f.1++⟨#[58,32]⟩++f.2++⟨#[13,10]⟩)=F.line f:=by
 simp only[L_append]
 rfl
theorem line_size (f:FD):(f.1++⟨#[58,32]⟩++f.2++⟨#[13,10]⟩).size=f.1.size+f.2.size+4:=by
 rw[L_size,line_eq,F.line_len]
set_option maxRecDepth 100000 in
set_option maxHeartbeats 1000000 in
theorem print_any (A:Option Addr) (c:Nat) (fs:List FD) (w:World) (hf:F.bulk fs≤1073741824) (hx:Rd w A fs.length 2 (fcells fs)) :
  Calls Tryz.prog 122 #[.slice A fs.length c] w (RetBE w (F.printB fs) (F.printE fs)):=by
 have hn:fs.length≤1073741824:=by have:=F.len_le_bulk fs;omega
 have HSM:=Lib.hid (small_of_bulk hf)
 have hln:=F.lines_len fs
 have hlt2:(F.lines fs).length≤4294967296:=by omega
 clear hln
 generalize hB:F.printB fs=PB at *
 generalize hE:F.printE fs=PE at *
 have HBAD:=Lib.hid (fun (h:fs.all F.okF=false)=>bad_print h)
 have HMANY:=Lib.hid (fun (h:fs.all F.okF=true) (h2:100 < fs.length)=>many_print h h2)
 have HGOOD:=Lib.hid (fun (h:fs.all F.okF=true) (h2:¬ 100 < fs.length)=>good_print h h2)
 rw[hB,hE]at HBAD HMANY HGOOD
 clear hB hE
 have HMB:=Lib.hid (fun f (h:f∈fs)=>F.mem_bulk h)
 go_enter Tryz.func122,Tryz.ntmps122
 go_wp2
 have HBUF0:=Lib.hid (Lib.fresh_isBuffer 213 5 w)
 have HB0:=Lib.hid ((Below.refl w.heap.size w).alloc (Nat.le_refl _) (.cells #[.slice none 0 0,.int .i64 0,.int .i8 0] 213))
 generalize w.alloc (.cells #[.slice none 0 0,.int .i64 0,.int .i8 0] 213)=w0 at *
 go_loopw [9] (fun i wr=>∃ k:Nat,k≤fs.length∧i=.int .i64 k∧Well fs k∧Lib.IsBuffer 213 5 w.heap.size w.heap.size (Lib.byteCells (F.lines (fs.take k))) wr∧Below w.heap.size w wr) (fun i _=>fs.length - (intOf i).toNat)
 case atStart=>exact⟨0,Nat.zero_le _,rfl,rfl,HBUF0.out,HB0.out⟩
 case round =>
  clear HBUF0 HB0
  obtain⟨k,hk,rfl,hw,hbuf,hbel⟩:=hrel
  have HW:=Lib.hid hw
  have HBUF:=Lib.hid hbuf
  have HBEL:=Lib.hid hbel
  clear hw hbuf hbel
  by_cases hlt:k < fs.length
  ·obtain⟨b,o,rfl,hb,d1,d2⟩:=(hx.below HBEL.out).field hlt rfl
   have hsn:=F.lines_snoc fs k hlt
   have hst:=fun h1 h2=>HW.out.step hlt h1 h2
   have hn1:=fun h=>ok_no1 hlt h
   have hn2:=fun h=>ok_no2 hlt h
   have hfm:=HMB.out _ (List.getElem_mem hlt)
   have hfs:=HSM.out _ (List.getElem_mem hlt)
   have htk:=F.lines_take fs k
   generalize hfk:fs[k]=f at *
   have HSN:=Lib.hid hsn
   have HST:=Lib.hid hst
   have HN1:=Lib.hid hn1
   have HN2:=Lib.hid hn2
   have ha1:=hfs.1
   have ha2:=hfs.2
   have HTOK:=Lib.hid (fun u=>token_any f.1 u ha1)
   have HGD:=Lib.hid (fun u=>good_any f.2 u ha2)
   have hz:=HBEL.out.size
   have hls:(F.lines (fs.take k)).length≤4294967296:=by omega
   have hls2:f.1.size+f.2.size+1≤1073741824:=by omega
   clear hsn hst hn1 hn2 hfs hfk hfm htk
   rcases tf (T.token (L f.1)) with h1 | h1
   ·rw[h1]at HTOK
    rcases tf (F.good f.2) with h2 | h2
    ·rw[h2]at HGD
     have HST2:=Lib.hid (HST.out h1 h2)
     clear h1 h2 HST HN1 HN2
     go_wp2_with fail
     refine (HTOK.out _).mono ?_
     rintro e w' ⟨rfl,rfl⟩
     go_wp2_with fail
     refine (HGD.out _).mono ?_
     rintro e w2 ⟨rfl,hb2⟩
     have hk2:=(Blk.new wr #[.string f.1,.string f.2] 167).below hb2
     obtain⟨x0,x1⟩:=hk2.cells2
     have HBUF2:=Lib.hid (buffer_below (buffer_below HBUF.out ((Below.refl _ _).alloc (Nat.le_refl _) (.cells #[.string f.1,.string f.2] 167))) hb2)
     have HBEL2:=Lib.hid (below_new HBEL.out hz hb2)
     have hz2:=HBEL2.out.size
     clear hk2 hb2 HBUF HBEL HTOK HGD d1 d2
     have hs1:f.1.size+2≤9223372036854775807:=by omega
     have hs2:f.1.size+2+f.2.size≤9223372036854775807:=by omega
     have hs3:f.1.size+2+f.2.size+2≤9223372036854775807:=by omega
     go_wp2_with fail
     refine (Tryz.Buffer_WriteString_k w.heap.size w.heap.size _ _ w2 HBUF2.out hz2 (Lib.byteCells_one _) (by rw[Lib.byteCells_length,line_size];omega)).mono ?_
     rintro e w3 ⟨rfl,hbuf3,hb3,_⟩
     have HBUF3:Hid (Lib.IsBuffer 213 5 w.heap.size w.heap.size (Lib.byteCells (F.lines (fs.take (k+1)))) w3):=by
      have:=hbuf3
      rw[show (f.1++⟨#[58,32]⟩++f.2++⟨#[13,10]⟩:ByteArray).data.toList=F.line f from line_eq f,← Lib.byteCells_append,← HSN.out]at this
      exact Lib.hid this
     have HBEL3:=Lib.hid (HBEL2.out.trans hb3)
     clear hbuf3 hb3 HBUF2 HBEL2 x0 x1
     go_wp2
     go_roundw
     case rel=>exact⟨k+1,by omega,by go_num,HST2.out,HBUF3.out,HBEL3.out⟩
     case measure=>simp [intOf];omega
    ·rw[h2]at HGD
     have HBD:=Lib.hid (HBAD.out (HN2.out h2))
     clear h1 h2 HST HN1 HN2
     go_wp2_with fail
     refine (HTOK.out _).mono ?_
     rintro e w' ⟨rfl,rfl⟩
     go_wp2_with fail
     refine (HGD.out _).mono ?_
     rintro e w2 ⟨rfl,hb2⟩
     have HBEL2:=Lib.hid (below_new HBEL.out hz hb2)
     clear hb2 HBUF HBEL HTOK HGD d1 d2
     go_wp2
     refine bodyPost_ret (v:=.tuple #[.slice none 0 0,.int .i64 40]) (by simp [results,Tryz.results122,go_sem]) rfl ?_
     exact RetBE.none_ HBEL2.out HBD.out.1 HBD.out.2
   ·rw[h1]at HTOK
    have HBD:=Lib.hid (HBAD.out (HN1.out h1))
    have HBEL2:=Lib.hid (HBEL.out.alloc hz (.cells #[.string f.1,.string f.2] 167))
    clear h1 HST HN1 HN2
    go_wp2_with fail
    refine (HTOK.out _).mono ?_
    rintro e w' ⟨rfl,rfl⟩
    clear HBUF HBEL HTOK HGD d1 d2
    go_wp2
    refine bodyPost_ret (v:=.tuple #[.slice none 0 0,.int .i64 40]) (by simp [results,Tryz.results122,go_sem]) rfl ?_
    exact RetBE.none_ HBEL2.out HBD.out.1 HBD.out.2
  ·have hkn:k=fs.length:=by omega
   subst hkn
   have hall:fs.all F.okF=true:=by have:=HW.out;unfold Well at this;rwa [List.take_length]at this
   have hbuf:=HBUF.out
   rw[List.take_length]at hbuf
   have HBF:=Lib.hid hbuf
   clear hbuf HBUF HW hlt hk
   by_cases hm:100 < fs.length
   ·have HBD:=Lib.hid (HMANY.out hall hm)
    clear hall
    go_wp2
    refine bodyPost_ret (v:=.tuple #[.slice none 0 0,.int .i64 42]) (by simp [results,Tryz.results122,go_sem]) rfl ?_
    exact RetBE.none_ HBEL.out HBD.out.1 HBD.out.2
   ·have HBD:=Lib.hid (HGOOD.out hall hm)
    clear hall
    go_wp2_with fail
    refine (Tryz.Buffer_Bytes w.heap.size w.heap.size _ wr HBF.out).mono ?_
    rintro e w3 ⟨v,rfl,hown,q,rfl⟩
    obtain⟨R,d,rfl,hrow⟩:=row_of_own hown
    have HR:=Lib.hid hrow
    clear hown hrow
    go_wp2
    refine bodyPost_ret (v:=.tuple #[.slice R (Lib.byteCells (F.lines fs)).length d,.int .i64 0]) (by simp [results,Tryz.results122,go_sem]) rfl ?_
    rw[HBD.out.1,HBD.out.2]
    have hl:(Lib.byteCells (F.lines fs)).length=(F.lines fs).length:=Lib.byteCells_length _
    have hr:=HR.out
    rw[hl]at hr ⊢
    exact⟨R,d,rfl,Row.crow hr,below_drewN HBEL.out q⟩
end Go.Proofs.YtkempjcphpnocaaGreatDoor
