/- The walk of the disk's on (a step about a file that is there), over the look-up of a name. Conditions: names of at most 2^40 bytes, at most 2^40 steps. The walk of hop.Bytes. Conditions: a list of bulk at most 2^20, texts and bodies of at most 2^20 bytes, numbers of 64 bits, the library's table of powers of ten. The walks of the document's Put and Bytes. Conditions: a list of bulk at most 2^20, texts and bodies of at most 2^20 bytes, numbers of 64 bits. The walk of the law HopBytes. Conditions: a list of bulk at most 2^20, texts and bodies of at most 2^20 bytes, numbers of 64 bits, the library's table of powers of ten. A head that is written is read as it was, whatever stands behind it, and not ahead of its last byte. No program here. What is read back of the bytes of a response and of a request, whatever stands behind them. No program here. maps.Keys, slices.Sorted and maps.Clone at this program's types: laid, and what they answer (printed by gen/mapk.py). Conditions: at most 2^30 names. -/
import Derived.Test.YtkempjcphpnocaaGreatDoorZ08
import Derived.Maps.OwnOps
import Derived.Deep.DeepCutAuto
import Derived.Shelf.SlMaps.Clone
import Derived.Shelf.SlIter.Sorted
namespace Go.Proofs.YtkempjcphpnocaaGreatDoor
open Go Go.RowKit Go.Maps
namespace D
def ptrOf (fa:Nat→Nat):Option Nat→Value
 | some no=>.pointer (some ⟨fa no,0,none⟩)
 | none=>.pointer none
end D
theorem strT_ul:Tryz.prog.underlying 9=some .string:=by kernel_rfl
theorem nmT_ul:Tryz.prog.underlying 67=some (.map 9 75):=by kernel_rfl
theorem zeroFile (w:World):(zeroValue 75).run Tryz.prog w=.ok (.pointer none) w:=by kernel_rfl
theorem nmKey (nm:ByteArray) (hs:nm.size≤maxLen):keyOf Tryz.prog 9 (.string nm)=some (D.key nm):=WideMaps.keyOf_string_mk strT_ul hs
section
variable {w:World} {b n:Nat} {fa:Nat→Nat} {l:D.NM}
theorem names_look (h:w.ownsMap Tryz.prog 9 D.ptrR b n (D.datum fa l)) (nm:ByteArray) (hs:nm.size≤maxLen) :
  (Instr.lookup 67 (.map (some b)) (.string nm) false).run Tryz.prog w=.ok (D.ptrOf fa (D.find l nm)) w:=by
 obtain⟨v,ps,hr,hv⟩:=h.lookup (string_keyed strT_ul) nmT_ul (zeroFile w) (zd:=.nil) (zp:=[]) rfl (nmKey nm hs)
 rw[hr]
 rw[D.datum_at]at hv
 cases hf:D.find l nm with
 | none=>rw[hf]at hv;rw[D.ptrR_nil hv];rfl
 | some no=>rw[hf]at hv;rw[D.ptrR_inv hv];rfl
theorem names_tight (h:w.ownsMap Tryz.prog 9 D.ptrR b n (D.datum fa l)):w.ownsMap Tryz.prog 9 D.ptrR b l.length (D.datum fa l):=by
 obtain⟨es,cl,hb,F,hs,hD⟩:=h
 refine⟨es,cl,hb,F,?_,hD⟩
 have h1:=congrArg Maps.size hD
 unfold D.datum at h1
 rw[Maps.size_eq,Maps.size_eq,length_sorted]at h1
 simp at h1
 omega
end
set_option maxHeartbeats 2000000 in
theorem on_any (B:Nat) (M:DM) (s:D.Dsk) (nm:ByteArray) (A:Option Addr) (n c B0:Nat) (more:List ByteArray) (w:World) (hD:∀ u,w.grownBy u (ownB A c)→DkAt B M s u) (hsn:0≤s.n∧s.n≤1099511627776) (hfl:s.fails.length≤1099511627776) (hn:n≤1000) (hl:more.length=n) (hs:NSml (more++[nm]))
  (hrow:Row w B0 9 1 A n c (scells more)) (hB0:B0≤w.heap.size) :
  Calls Tryz.prog 73 #[.pointer (some ⟨M.d,0,none⟩),.string nm,.slice A n c] w (fun e w'=>e=.returned (.tuple #[D.ptrOf M.fa (s.look nm more).2.2,.int .i64 (s.look nm more).2.1])∧∃ u,w.grownBy u (ownB A c)∧DkAt B M (s.look nm more).1 w'∧Stepped M s u M (s.look nm more).1 w'):=by
 have HD:=Lib.hid hD
 have HR:=Lib.hid hrow
 have hnm:nm.size≤1099511627776:=hs nm (by simp)
 have HLN:Hid ((more++[nm]).length=n+1):=Lib.hid (by simp [hl])
 have HBG:=Lib.hid (fun (A':Option Addr) (c':Nat) (u:World) (h:DkAt B M s u) (hx:Rd u A' (n+1) 1 (scells (more++[nm]))) (hA)=>begin_any B M s A' (n+1) c' (more++[nm]) u h hsn hfl (by omega) HLN.out hs hx hA)
 obtain⟨G,hG⟩:∃ G,s.look nm more=G:=⟨_,rfl⟩
 obtain⟨S1,hS1⟩:∃ S1,s.begin (more++[nm])=S1:=⟨_,rfl⟩
 have HG:Hid (G=if S1.2≠0 then (S1.1,S1.2,none) else match D.find S1.1.now nm with | none=>(S1.1,90,none) | some no=>(S1.1,0,some no)):=Lib.hid (by rw[← hG,← hS1];rfl)
 rw[hG]
 rw[hS1]at HBG
 clear hG hS1 hD hrow hl hs hsn hfl HLN
 go_enter Tryz.func73,Tryz.ntmps73
 go_wp2_with (at_builtin;refine appS _ rfl _ _ rfl B0 A n c more rfl (HR.out.alloc _) _ 1 1 [nm] rfl (newS w nm) (by omega) (by simp;omega) ?_;intro A1 c1 w2 hr2 ha2)
 have HD2:Hid (w.grownBy w2 (ownB A c)):=Lib.hid (by
  have h1:=World.grownBy_alloc w (.cells #[.string nm] 9) (ownB A c)
  exact h1.trans ha2.grown)
 have HDu:=Lib.hid (HD.out w2 HD2.out)
 have hA1:0 < n+1→∀ a,A1=some a→a.block≠M.d:=by
  intro _ a ha
  have hc:=hr2.cap.1
  have ht:=hr2.tag (k:=a.block) (by unfold ownB;rw[if_neg (by omega),ha];rfl)
  exact ht.ne HDu.out.blk.tag (by decide)
 have HC:=Lib.hid (HBG.out A1 c1 w2 HDu.out hr2.rd hA1)
 clear hA1 hr2 ha2 HR HBG HD
 go_wp2_with fail
 refine HC.out.mono ?_
 rintro e w3 ⟨rfl,hd3,hs3⟩
 have HD3:=Lib.hid hd3
 have HS3:=Lib.hid hs3
 clear hd3 hs3 HC HDu
 obtain⟨s1,z⟩:=S1
 dsimp only at *
 by_cases hz:z=0
 ·subst hz
  rw[if_neg (by simp)]at HG
  obtain⟨y0,y1,y2,y3,y4,y5,y6,y7⟩:=HD3.out.cells
  have hlk:=names_look HD3.out.now nm (by simp only[maxLen];omega)
  clear y1 y2 y3 y4 y5 y6 y7
  cases hf:D.find s1.now nm with
  | none =>
   rw[hf]at hlk HG
   dsimp only[D.ptrOf]at hlk HG
   go_wp2
   go_ret2
   exact⟨by rw[HG.out];rfl,w2,HD2.out,by rw[HG.out];exact HD3.out,by rw[HG.out];exact HS3.out⟩
  | some no =>
   rw[hf]at hlk HG
   dsimp only[D.ptrOf]at hlk HG
   go_wp2
   go_ret2
   exact⟨by rw[HG.out];rfl,w2,HD2.out,by rw[HG.out];exact HD3.out,by rw[HG.out];exact HS3.out⟩
 ·have hzb:(z==0)=false:=beq_eq_false_iff_ne.2 hz
  rw[if_pos hz]at HG
  go_wp2
  go_ret2
  exact⟨by rw[HG.out];rfl,w2,HD2.out,by rw[HG.out];exact HD3.out,by rw[HG.out];exact HS3.out⟩
end Go.Proofs.YtkempjcphpnocaaGreatDoor
namespace Go.Proofs.YtkempjcphpnocaaGreatDoor
open Go.RowKit
theorem Row.apart {u:World} {base:Nat} {e t:TypeId} {size:Nat} {A:Option Addr} {n c b:Nat} {xs:List Value} {cs:Array Value} (h:Row u base e size A n c xs) (hb:Blk u b cs t) (hne:t≠e):∀ k,ownB A c=some k→k≠b:=by
 rintro k hk rfl
 have hb':u.heap[k]?=some (.cells cs t (0,0)):=hb
 unfold ownB at hk
 split at hk
 ·cases hk
 ·rename_i hc
  rcases h with ⟨_,h2⟩ | ⟨_,h2,_⟩
  ·rcases h2 with ⟨hv,_⟩ | ⟨g,cap,cur,hv,hg,hh,r⟩
   ·injection hv with _ _ h3
    exact hc h3
   ·injection hv with hA
    subst hA
    simp at hk
    subst hk
    rw[hb']at hh
    injection hh with hh
    injection hh with _ h2
    exact hne h2
  ·exact hc h2
end Go.Proofs.YtkempjcphpnocaaGreatDoor
namespace Go.Proofs.YtkempjcphpnocaaGreatDoor
open Go.RowKit
def BytesS (w:World) (b:Nat) (X X1:Array Value) (A1:Option Addr) (fs:List FD) (g:Nat) (body:List UInt8) (u:World):Prop :=
 Blk u w.heap.size X 25∧Blk u b X1 25∧Rd u A1 fs.length 2 (fcells fs)∧Rd u (some ⟨g,0,none⟩) (body.length+marks.length) 1 (bcells (body++marks))∧Below w.heap.size w u
theorem BytesS.below {w u v:World} {b g:Nat} {X X1:Array Value} {A1:Option Addr} {fs:List FD} {body:List UInt8} (h:BytesS w b X X1 A1 fs g body u) (hb:Below u.heap.size u v):BytesS w b X X1 A1 fs g body v :=
 ⟨h.1.below hb,h.2.1.below hb,h.2.2.1.below hb,h.2.2.2.1.below hb,below_then h.2.2.2.2.size h.2.2.2.2 hb⟩
end Go.Proofs.YtkempjcphpnocaaGreatDoor
namespace Go.Proofs.YtkempjcphpnocaaGreatDoor
namespace P
open T (Bs)
theorem tokB_not {c:UInt8} (h:T.tokB c=true):c≠13∧c≠10∧c≠32∧c≠58∧c≠9 :=
 ⟨fun e=>by subst e;exact absurd h (by decide),fun e=>by subst e;exact absurd h (by decide),fun e=>by subst e;exact absurd h (by decide),fun e=>by subst e;exact absurd h (by decide),fun e=>by subst e;exact absurd h (by decide)⟩
theorem textB_not {c:UInt8} (h:T.textB c=true):c≠13∧c≠10 :=
 ⟨fun e=>by subst e;exact absurd h (by decide),fun e=>by subst e;exact absurd h (by decide)⟩
theorem eol_no {c:UInt8} (h1:c≠13) (h2:c≠10):eol c=false:=by
 unfold eol
 rw[Bool.or_eq_false_iff,beq_eq_false_iff_ne,beq_eq_false_iff_ne]
 exact⟨h1,h2⟩
theorem mem_tok {l:Bs} (h:T.token l=true) {x:UInt8} (hx:x∈l):T.tokB x=true:=by
 unfold T.token at h
 rw[Bool.and_eq_true,List.all_eq_true]at h
 exact h.1 x hx
theorem tok_ne {l:Bs} (h:T.token l=true):l≠[]:=by
 rintro rfl
 exact absurd h (by decide)
def bare (f:FD):Bs:=L f.1++58::32::L f.2
theorem line_bare (f:FD):F.line f=bare f++[13,10]:=by
 unfold F.line bare
 simp
theorem bare_ok {f:FD} (h:F.okF f=true):(∀ y∈bare f,eol y=false)∧oneE (bare f)=0∧oneF (bare f)=f∧∃ x t,bare f=x::t∧x≠13:=by
 unfold F.okF at h
 rw[Bool.and_eq_true]at h
 obtain⟨h1,h2⟩:=h
 have h3:=h2
 unfold F.good at h3
 rw[Bool.and_eq_true,List.all_eq_true,decide_eq_true_eq]at h3
 obtain⟨h3,h4⟩:=h3
 have hs:=upto_app (·==58) (L f.1) 58 (32::L f.2) (fun y hy=>by
  have:=(tokB_not (mem_tok h1 hy)).2.2.2.1
  simpa using this) (by decide)
 have hn:nameOf (bare f)=L f.1:=hs.1
 have hfr:from_ (·==58) (bare f)=58::32::L f.2:=hs.2
 have hv:valOf (bare f)=L f.2:=by
  unfold valOf
  rw[hfr]
  show T.trim (32::L f.2)=_
  have:T.trim (32::L f.2)=T.trim (L f.2):=by
   unfold T.trim
   rw[List.dropWhile_cons,if_pos (by decide)]
  rw[this,h4]
 obtain⟨x,t,hxt⟩:∃ x t,L f.1=x::t:=by
  cases h5:L f.1 with
  | nil=>exact absurd h5 (tok_ne h1)
  | cons x t=>exact⟨x,t,rfl⟩
 have hx:=tokB_not (mem_tok h1 (show x∈L f.1 by rw[hxt];simp))
 have hcons:bare f=x::(t++58::32::L f.2):=by
  unfold bare
  rw[hxt];rfl
 refine⟨?_,?_,?_,x,_,hcons,hx.1⟩
 ·intro y hy
  unfold bare at hy
  rw[List.mem_append,List.mem_cons,List.mem_cons]at hy
  rcases hy with hy | rfl | rfl | hy
  ·have:=tokB_not (mem_tok h1 hy)
   exact eol_no this.1 this.2.1
  ·decide
  ·decide
  ·have:=textB_not (h3 y hy)
   exact eol_no this.1 this.2
 ·unfold oneE
  rw[if_neg,if_neg]
  ·rw[hfr,hn,hv,B_L,h1,h2]
   rintro (h | h | h)<;>cases h
  ·rw[hcons]
   simp only[List.head?_cons,Option.some.injEq]
   rintro (h | h)
   ·exact hx.2.2.1 h
   ·exact hx.2.2.2.2 h
 ·unfold oneF
  rw[hn,hv,B_L,B_L]
theorem lines_cons (f:FD) (fs:List FD):F.lines (f::fs)=bare f++13::10::F.lines fs:=by
 unfold F.lines
 rw[List.flatMap_cons,line_bare]
 simp
theorem parse_lines:∀ (fs out:List FD),fs.all F.okF=true→out.length+fs.length≤100→parse out (F.lines fs)=(out++fs,0)
 | [],out,_,_=>by
  rw[show F.lines []=[] from rfl,parse_nil,List.append_nil]
 | f::fs,out,h,hl=>by
  rw[List.all_cons,Bool.and_eq_true]at h
  obtain⟨g1,g2,g3,x,t,hxt,_⟩:=bare_ok h.1
  have hs:=upto_app eol (bare f) 13 (10::F.lines fs) g1 (by decide)
  rw[lines_cons,parse_step out (by rw[hxt];simp) hs.2,hs.1,g2,g3,if_neg (fun h=>h rfl)]
  simp only[List.length_cons]at hl
  rw[if_neg (by omega),parse_lines fs (out++[f]) h.2 (by rw[List.length_append];simp only[List.length_cons,List.length_nil];omega)]
  simp
theorem index_cons_no {x:UInt8} {l:Bs} {sub:Bs} {i:Nat} (h:sub.isPrefixOf (x::l)=false) (hi:Lib.index l sub=(i:Int)):Lib.index (x::l) sub=((i+1:Nat):Int):=by
 unfold Lib.index
 rw[h,hi]
 have:((i:Int)==-1)=false:=by rw[beq_eq_false_iff_ne];omega
 simp [this]
theorem index_cons_yes {x:UInt8} {l:Bs} {sub:Bs} (h:sub.isPrefixOf (x::l)=true):Lib.index (x::l) sub=0:=by
 unfold Lib.index
 rw[if_pos h]
theorem pre_no {x:UInt8} {l t:Bs} (h:x≠13):(13::t:Bs).isPrefixOf (x::l)=false:=by
 rw[List.isPrefixOf_cons_cons,Bool.and_eq_false_iff]
 exact .inl (by rw[beq_eq_false_iff_ne];exact fun e=>h e.symm)
theorem index_past_u {t:Bs}:∀ (u r:Bs) (i:Nat),(∀ y∈u,eol y=false)→Lib.index r (13::t)=(i:Int)→Lib.index (u++r) (13::t)=((u.length+i:Nat):Int)
 | [],r,i,_,hi=>by simpa using hi
 | y::u,r,i,hu,hi=>by
  have hy:y≠13:=((eol_iff' y).1 (hu y (by simp))).1
  have:=index_past_u u r i (fun z hz=>hu z (by simp [hz])) hi
  rw[List.cons_append,index_cons_no (pre_no hy) this]
  simp only[List.length_cons]
  congr 1
  omega
where
 eol_iff' (x:UInt8):eol x=false↔x≠13∧x≠10:=by
  unfold eol
  rw[Bool.or_eq_false_iff,beq_eq_false_iff_ne,beq_eq_false_iff_ne]
theorem index_crlf (r:Bs):Lib.index (13::10::r) crlf=0:=index_cons_yes (by simp [crlf])
theorem index_crlf2 (r:Bs):Lib.index (13::10::13::10::r) crlf2=0:=index_cons_yes (by simp [crlf2])
theorem index_two {x:UInt8} {l:Bs} {i:Nat} (hx:x≠13) (hi:Lib.index (x::l) crlf2=(i:Int)):Lib.index (13::10::x::l) crlf2=((i+2:Nat):Int):=by
 have h1:Lib.index (10::x::l) crlf2=((i+1:Nat):Int):=index_cons_no (pre_no (by decide)) hi
 refine index_cons_no ?_ h1
 unfold crlf2
 rw[List.isPrefixOf_cons_cons,List.isPrefixOf_cons_cons,pre_no hx]
 rfl
theorem index_head:∀ (fs:List FD) (u rest:Bs),fs.all F.okF=true→(∀ y∈u,eol y=false)→Lib.index (u++13::10::(F.lines fs++13::10::rest)) crlf2=((u.length+(F.lines fs).length:Nat):Int)
 | [],u,rest,_,hu=>index_past_u u _ 0 hu (index_crlf2 rest)
 | f::fs,u,rest,h,hu=>by
  rw[List.all_cons,Bool.and_eq_true]at h
  obtain⟨g1,_,_,x,t,hxt,hx⟩:=bare_ok h.1
  have ih:=index_head fs (bare f) rest h.2 g1
  have e:F.lines (f::fs)++13::10::rest=bare f++13::10::(F.lines fs++13::10::rest):=by
   rw[lines_cons];simp
  rw[e]
  have hl:(F.lines (f::fs)).length=(bare f).length+2+(F.lines fs).length:=by
   rw[lines_cons]
   simp only[List.length_append,List.length_cons]
   omega
  rw[hl]
  refine index_past_u u _ _ hu ?_
  rw[hxt,List.cons_append]at ih ⊢
  refine (index_two hx ih).trans ?_
  congr 1
  omega
def headOf (u:Bs) (fs:List FD):Bs:=u++[13,10]++F.lines fs++[13,10]
theorem headOf_app (u:Bs) (fs:List FD) (rest:Bs):headOf u fs++rest=u++13::10::(F.lines fs++13::10::rest):=by
 unfold headOf
 simp
theorem headOf_len (u:Bs) (fs:List FD):(headOf u fs).length=u.length+(F.lines fs).length+4:=by
 unfold headOf
 simp only[List.length_append,List.length_cons,List.length_nil]
 omega
theorem head_facts (u:Bs) (fs:List FD) (rest:Bs) (h:fs.all F.okF=true) (hu:∀ y∈u,eol y=false) (hl:u.length+(F.lines fs).length+4≤8192) :
  hIdx (headOf u fs++rest) 0=((u.length+(F.lines fs).length:Nat):Int)∧hE (headOf u fs++rest) 0=0∧hN (headOf u fs++rest) 0=((headOf u fs).length:Int)∧hLine (headOf u fs++rest) 0=u∧hBlock (headOf u fs++rest) 0=F.lines fs:=by
 have h0:hIdx (headOf u fs++rest) 0=((u.length+(F.lines fs).length:Nat):Int):=by
  unfold hIdx
  rw[List.drop_zero,headOf_app]
  exact index_head fs u rest h hu
 have ht:hText (headOf u fs++rest) 0=u++13::10::F.lines fs:=by
  unfold hText
  rw[h0,List.drop_zero,headOf_app]
  have e:u++13::10::(F.lines fs++13::10::rest)=(u++13::10::F.lines fs)++(13::10::rest):=by simp
  rw[e]
  refine List.take_left' ?_
  simp only[List.length_append,List.length_cons]
  omega
 have hx:Lib.index (u++13::10::F.lines fs) crlf=((u.length:Nat):Int):=by
  have:=index_past_u (t:=[10]) u (13::10::F.lines fs) 0 hu (index_crlf _)
  rw[Nat.add_zero]at this
  exact this
 refine⟨h0,?_,?_,?_,?_⟩
 ·unfold hE
  rw[h0,if_neg (by omega),if_neg (by omega)]
 ·unfold hN
  rw[h0,if_neg (by omega),headOf_len]
  omega
 ·unfold hLine
  rw[ht,hx,Int.toNat_natCast,List.take_left' rfl]
 ·unfold hBlock
  rw[ht,hx,Int.toNat_natCast]
  have e:u++13::10::F.lines fs=(u++[13,10])++F.lines fs:=by simp
  rw[e]
  exact List.drop_left' (by simp)
theorem head_short (u:Bs) (fs:List FD) (h:fs.all F.okF=true) (hu:∀ y∈u,eol y=false) (hl:u.length+(F.lines fs).length+4≤8192) :
  hIdx ((headOf u fs).take ((headOf u fs).length - 1)) 0 < 0:=by
 have h0:=(head_facts u fs [] h hu hl).1
 rw[List.append_nil]at h0
 have hlen:=headOf_len u fs
 rcases idx_cases ((headOf u fs).take ((headOf u fs).length - 1)) 0 with h1 | ⟨i,h1,h2⟩
 ·exact h1
 ·rw[List.length_take]at h2
  have:=(idx_front (b:=(headOf u fs).take ((headOf u fs).length - 1)) (b':=headOf u fs) (m:=(headOf u fs).length - 1) (by rw[List.take_take,Nat.min_self]) h1 (by omega) (by omega)).1
  omega
theorem whole_ok {l:Bs} {fs:List FD} (h:F.wholeE l fs=0):fs.all F.okF=true∧fs.length≤100∧l.length+(F.lines fs).length+4≤8192∧F.wholeB l fs=headOf l fs:=by
 refine⟨?_,?_,?_,if_pos h⟩
 all_goals
  unfold F.wholeE at h
  split at h
  ·rename_i h1
   unfold F.printE at h1
   split at h1
   ·rename_i h2
    split at h1
    ·cases h1
    ·split at h
     ·cases h
     ·first | exact h2 | omega
   ·cases h1
  ·rename_i h1
   exact absurd h h1
theorem itoa01 {n:Int} (h0:0≤n) (h1:n≤1):(n=0∧Lib.itoa n=[48])∨(n=1∧Lib.itoa n=[49]):=by
 rcases (by omega:n=0∨n=1) with rfl | rfl
 ·exact .inl ⟨rfl,by unfold Lib.itoa;rw[if_neg (by decide),show (0:Int).toNat=0 from rfl,Lib.decDigits];rfl⟩
 ·exact .inr ⟨rfl,by rw[itoa_show 1 (by decide)];decide⟩
theorem status_digits:∀ k:Fin 500,code3 (low (k.1+100)).reverse=true∧stat (low (k.1+100)).reverse=((k.1+100:Nat):Int):=by decide +kernel
theorem status_itoa {s:Int} (h0:100≤s) (h1:s≤599):code3 (Lib.itoa s)=true∧stat (Lib.itoa s)=s:=by
 have h:=status_digits ⟨(s - 100).toNat,by omega⟩
 have e:(s - 100).toNat+100=s.natAbs:=by omega
 simp only[e]at h
 rw[itoa_show s (by omega),if_neg (by omega),List.append_nil]
 exact⟨h.1,h.2.trans (by omega)⟩
theorem dig_not {c:UInt8} (h:dig c=true):c≠13∧c≠10∧c≠32 :=
 ⟨fun e=>by subst e;exact absurd h (by decide),fun e=>by subst e;exact absurd h (by decide),fun e=>by subst e;exact absurd h (by decide)⟩
theorem response_round {s:Int} {r:ByteArray} {v:Int} {fs:List FD} (h:F.respE s r v fs=0) (rest:Bs) :
  response (F.respB s r v fs++rest)=⟨s,r,v,fs,((F.respB s r v fs).length:Int),0⟩∧(F.respB s r v fs).length≤8192∧0 < (F.respB s r v fs).length∧response ((F.respB s r v fs).take ((F.respB s r v fs).length - 1))=.bad 0:=by
 have hB0:F.respB s r v fs=F.wholeB (F.respLine s r v) fs:=if_pos h
 rw[hB0]
 unfold F.respE at h
 split at h
 case isTrue=>cases h
 case isFalse hok =>
  split at h
  case isTrue=>cases h
  case isFalse hst =>
   obtain⟨h1,h2,h3,h4⟩:=whole_ok h
   rw[h4]
   have htx:F.text r=true:=by
    cases ht:F.text r with
    | true=>rfl
    | false=>exact absurd (.inr (.inr ht)) hok
   have k3:0≤v:=by
    rcases (by omega:v < 0∨0≤v) with h | h
    ·exact absurd (.inl h) hok
    ·exact h
   have k4:v≤1:=by
    rcases (by omega:1 < v∨v≤1) with h | h
    ·exact absurd (.inr (.inl h)) hok
    ·exact h
   obtain⟨c1,c2⟩:=status_itoa (s:=s) (by omega) (by omega)
   obtain⟨d,hd,hdv⟩:∃ d:UInt8,Lib.itoa v=[d]∧((v=0∧d=48)∨(v=1∧d=49)):=by
    rcases itoa01 k3 k4 with ⟨e1,e2⟩ | ⟨e1,e2⟩
    ·exact⟨48,e2,.inl ⟨e1,rfl⟩⟩
    ·exact⟨49,e2,.inr ⟨e1,rfl⟩⟩
   have hline:F.respLine s r v=[72,84,84,80,47,49,46,d]++32::(Lib.itoa s++32::L r):=by
    unfold F.respLine
    rw[hd]
    simp
   generalize Lib.itoa s=cd at *
   have hcd:∀ y∈cd,dig y=true:=by
    have:=c1
    unfold code3 at this
    rw[Bool.and_eq_true,List.all_eq_true]at this
    exact this.2
   have htr:∀ y∈L r,T.textB y=true:=by
    have:=htx
    unfold F.text at this
    rwa [List.all_eq_true]at this
   have hpr:∀ y∈([72,84,84,80,47,49,46,d]:Bs),eol y=false∧sp y=false:=by
    rcases hdv with ⟨_,rfl⟩ | ⟨_,rfl⟩
    ·decide
    ·decide
   have hu:∀ y∈F.respLine s r v,eol y=false:=by
    rw[hline]
    intro y hy
    have hy2:y∈([72,84,84,80,47,49,46,d]:Bs)∨y=32∨y∈cd∨y=32∨y∈L r:=by
     rcases List.mem_append.1 hy with h | h
     ·exact .inl h
     ·rcases List.mem_cons.1 h with h | h
      ·exact .inr (.inl h)
      ·rcases List.mem_append.1 h with h | h
       ·exact .inr (.inr (.inl h))
       ·rcases List.mem_cons.1 h with h | h
        ·exact .inr (.inr (.inr (.inl h)))
        ·exact .inr (.inr (.inr (.inr h)))
    rcases hy2 with hy | rfl | hy | rfl | hy
    ·exact (hpr y hy).1
    ·decide
    ·have:=dig_not (hcd y hy)
     exact eol_no this.1 this.2.1
    ·decide
    ·have:=textB_not (htr y hy)
     exact eol_no this.1 this.2
   have hf:=head_facts (F.respLine s r v) fs rest h1 hu h3
   have e1:=upto_app sp [72,84,84,80,47,49,46,d] 32 (cd++32::L r) (fun y hy=>(hpr y hy).2) (by decide)
   have e2:=upto_app sp cd 32 (L r) (fun y hy=>by
    have:=(dig_not (hcd y hy)).2.2
    unfold sp
    simpa using this) (by decide)
   have m1:methodOf (F.respLine s r v)=[72,84,84,80,47,49,46,d]:=by rw[hline];exact e1.1
   have m2:behind (F.respLine s r v)=cd++32::L r:=by
    rw[hline]
    unfold behind
    rw[e1.2]
    rfl
   have m3:methodOf (behind (F.respLine s r v))=cd:=by rw[m2];exact e2.1
   have m4:behind (behind (F.respLine s r v))=L r:=by
    rw[m2]
    unfold behind
    rw[e2.2]
    rfl
   have hve:verE [72,84,84,80,47,49,46,d]=0∧verN [72,84,84,80,47,49,46,d]=v:=by
    rcases hdv with ⟨rfl,rfl⟩ | ⟨rfl,rfl⟩
    ·exact⟨by decide,by decide⟩
    ·exact⟨by decide,by decide⟩
   have hp:=parse_lines fs [] h1 (by simpa using h2)
   rw[List.nil_append]at hp
   have hlen:=headOf_len (F.respLine s r v) fs
   refine⟨?_,by omega,by omega,?_⟩
   ·unfold response
    rw[hf.2.1,hf.2.2.1,hf.2.2.2.1,hf.2.2.2.2,if_neg (by omega)]
    unfold respOf
    rw[m1,m3,m4,B_L,c1,c2,htx,hve.1,hve.2,hp,if_neg (by simp),if_neg (by omega),if_neg (by decide),if_neg (fun h=>h rfl)]
   ·have hsh:=head_short (F.respLine s r v) fs h1 hu h3
    rw[response_no hsh,hE_no hsh,if_pos (by rw[List.length_take];omega)]
end P
end Go.Proofs.YtkempjcphpnocaaGreatDoor
namespace Go.Proofs.YtkempjcphpnocaaGreatDoor
open Go Go.RowKit Go.Maps Go.Sort Go.Shelf
def Tryz.renKD:Go.Shelf.Ren:=⟨fun | 7=>50 | 10=>85 | n=>n,fun | 0=>0 | 3=>75 | 4=>4 | 23=>67 | 26=>9 | 27=>107 | 28=>108 | 33=>74 | n=>n,fun n=>n⟩
theorem Tryz.keysD:SlLaysZ.n7 Tryz.prog Tryz.renKD:={
 mixed:=by kernel_rfl,
 f7:=⟨Tryz.f50.name,by decide,Tryz.func50.trans (congrArg some (by kernel_rfl))⟩,
 f10:=⟨Tryz.f85.name,by decide,Tryz.func85.trans (congrArg some (by kernel_rfl))⟩,
 t0:=Tryz.underlying0,a0:=Tryz.isAgg0,z0:=Tryz.sizeOf0,v0:=Tryz.zeroValue0,
 t4:=Tryz.underlying4,a4:=Tryz.isAgg4,z4:=Tryz.sizeOf4,v4:=Tryz.zeroValue4,
 t23:=Tryz.underlying67,a23:=Tryz.isAgg67,z23:=Tryz.sizeOf67,v23:=Tryz.zeroValue67,
 t26:=Tryz.underlying9,a26:=Tryz.isAgg9,z26:=Tryz.sizeOf9,v26:=Tryz.zeroValue9,
 t27:=Tryz.underlying107,a27:=Tryz.isAgg107,z27:=Tryz.sizeOf107,v27:=Tryz.zeroValue107,
 t28:=Tryz.underlying108,a28:=Tryz.isAgg108,z28:=Tryz.sizeOf108,v28:=Tryz.zeroValue108,
 t33:=Tryz.underlying74,a33:=Tryz.isAgg74,z33:=Tryz.sizeOf74,v33:=Tryz.zeroValue74
}
def Tryz.renKT:Go.Shelf.Ren:=⟨fun | 7=>47 | 10=>83 | n=>n,fun | 0=>0 | 3=>3 | 4=>4 | 23=>84 | 26=>9 | 27=>107 | 28=>108 | 33=>74 | n=>n,fun n=>n⟩
theorem Tryz.keysT:SlLaysZ.n7 Tryz.prog Tryz.renKT:={
 mixed:=by kernel_rfl,
 f7:=⟨Tryz.f47.name,by decide,Tryz.func47.trans (congrArg some (by kernel_rfl))⟩,
 f10:=⟨Tryz.f83.name,by decide,Tryz.func83.trans (congrArg some (by kernel_rfl))⟩,
 t0:=Tryz.underlying0,a0:=Tryz.isAgg0,z0:=Tryz.sizeOf0,v0:=Tryz.zeroValue0,
 t4:=Tryz.underlying4,a4:=Tryz.isAgg4,z4:=Tryz.sizeOf4,v4:=Tryz.zeroValue4,
 t23:=Tryz.underlying84,a23:=Tryz.isAgg84,z23:=Tryz.sizeOf84,v23:=Tryz.zeroValue84,
 t26:=Tryz.underlying9,a26:=Tryz.isAgg9,z26:=Tryz.sizeOf9,v26:=Tryz.zeroValue9,
 t27:=Tryz.underlying107,a27:=Tryz.isAgg107,z27:=Tryz.sizeOf107,v27:=Tryz.zeroValue107,
 t28:=Tryz.underlying108,a28:=Tryz.isAgg108,z28:=Tryz.sizeOf108,v28:=Tryz.zeroValue108,
 t33:=Tryz.underlying74,a33:=Tryz.isAgg74,z33:=Tryz.sizeOf74,v33:=Tryz.zeroValue74
}
def Tryz.renS:Go.Shelf.Ren:=⟨fun | 6=>46 | 8=>81 | 9=>82 | 11=>104 | n=>n,fun | 0=>0 | 24=>42 | 26=>9 | 28=>108 | 33=>74 | n=>n,fun n=>n⟩
theorem Tryz.sortedL:SlLaysZ.n6 Tryz.prog Tryz.renS:={
 mixed:=by kernel_rfl,
 f6:=⟨Tryz.f46.name,by decide,Tryz.func46.trans (congrArg some (by kernel_rfl))⟩,
 f8:=⟨Tryz.f81.name,by decide,Tryz.func81.trans (congrArg some (by kernel_rfl))⟩,
 f11:=⟨Tryz.f104.name,by decide,Tryz.func104.trans (congrArg some (by kernel_rfl))⟩,
 t0:=Tryz.underlying0,a0:=Tryz.isAgg0,z0:=Tryz.sizeOf0,v0:=Tryz.zeroValue0,
 t24:=Tryz.underlying42,a24:=Tryz.isAgg42,z24:=Tryz.sizeOf42,v24:=Tryz.zeroValue42,
 t26:=Tryz.underlying9,a26:=Tryz.isAgg9,z26:=Tryz.sizeOf9,v26:=Tryz.zeroValue9,
 t28:=Tryz.underlying108,a28:=Tryz.isAgg108,z28:=Tryz.sizeOf108,v28:=Tryz.zeroValue108,
 i26:=Tryz.infoS
}
def Tryz.renC:Go.Shelf.Ren:=⟨fun | 5=>29 | 7=>55 | n=>n,fun | 3=>75 | 4=>4 | 20=>20 | 23=>67 | 25=>9 | n=>n,fun n=>n⟩
theorem Tryz.cloneD:SlLaysW.n5 Tryz.prog Tryz.renC:={
 mixed:=by kernel_rfl,
 f5:=⟨Tryz.f29.name,by decide,Tryz.func29.trans (congrArg some (by kernel_rfl))⟩,
 f7:=Tryz.func55.trans (congrArg some (by kernel_rfl)),
 t4:=Tryz.underlying4,a4:=Tryz.isAgg4,z4:=Tryz.sizeOf4,v4:=Tryz.zeroValue4,
 t20:=Tryz.underlying20,a20:=Tryz.isAgg20,z20:=Tryz.sizeOf20,v20:=Tryz.zeroValue20,
 t23:=Tryz.underlying67,a23:=Tryz.isAgg67,z23:=Tryz.sizeOf67,v23:=Tryz.zeroValue67
}
theorem names_slice {w0 w':World} {v:Value} {ss:List (List UInt8)} {l:List ByteArray} (hss:ss.mergeSort (fun x y=>decide (x≤y))=l.map L) (hln:ss.length=l.length)
  (hrow:w'.ownsRow w0.heap.size 9 1 v ss.length ((ss.mergeSort (fun x y=>decide (x≤y))).map encStr)) (hb:Below w0.heap.size w0 w') :
  RetRow w0 9 1 l.length (scells l) (.returned v) w':=by
 rw[hss,hln]at hrow
 have e:(l.map L).map encStr=scells l:=by
  rw[List.map_map]
  apply List.map_congr_left
  intro x _
  rfl
 rw[e]at hrow
 rcases hrow.2 with ⟨rfl,h0⟩ | ⟨g,cap,cur,rfl,r⟩
 ·have:l=[]:=List.eq_nil_of_length_eq_zero h0
  subst this
  exact⟨none,0,rfl,Row.none_ _ _ _ _,hb⟩
 ·exact⟨some ⟨g,0,none⟩,cap,rfl,.inl hrow,hb⟩
theorem perm_len {fa:Nat→Nat} {l:D.NM} {ss:List (List UInt8)} (h:ss.Perm (strKeys (D.datum fa l))):ss.length=(l.map (·.1)).length:=by
 rw[h.length_eq,D.keys_datum,List.length_map,List.length_map]
theorem sorts_in (m:Nat):AnyZ.SortsIn Tryz.prog Tryz.renS Fence.wide m :=
 ⟨fun blk off cap ss W hH hblk hsz=>callsIn_wide.2 (Tryz.slices_Sort_string blk off cap ss W hH hblk hsz),
  fun p cap W=>callsIn_wide.2 (Tryz.slices_Sort_string_none p cap W)⟩
theorem keysD_any (mb:Option Nat) (w:World):Calls Tryz.prog 50 #[.map mb] w (fun e w'=>e=.returned (.func (.func 85) #[] #[.pointer (some ⟨w.heap.size,0,none⟩)])∧w'=w.alloc (.cells #[.map mb] 67)) :=
 (callsIn_wide (n:=5)).1 (AnyZ.keys_in Tryz.keysD Fence.wide 5 trivial rfl mb w)
set_option maxHeartbeats 1000000 in
theorem sortedD_any {R:Value→Option (DataW Unit × List MemPlace)} (fa:Nat→Nat) (l:D.NM) (k b:Nat) (w:World) (hk:k < w.heap.size) (hm:w.cell? ⟨k,0,none⟩=some (.map (some b))) (h:w.ownsMap Tryz.prog 9 R b l.length (D.datum fa l)) (hu:D.Up l) (hl:l.length≤1073741824) :
  Calls Tryz.prog 46 #[.func (.func 85) #[] #[.pointer (some ⟨k,0,none⟩)]] w (RetRow w 9 1 (l.map (·.1)).length (scells (l.map (·.1)))):=by
 have hsz:Maps.size (D.datum fa l)=l.length:=by
  unfold D.datum
  rw[Maps.size_eq]
  simp
 have hseq:SeqGives Fence.wide 2 Tryz.prog 85 #[.pointer (some ⟨k,0,none⟩)] encStr (fun ss=>ss.Perm (strKeys (D.datum fa l))) (Maps.size (D.datum fa l)) w :=
  AnyZ.keys_gives (ρ:=Tryz.renKD) { Tryz.keysD with } Fence.wide 2 trivial rfl (by omega) k b l.length (D.datum fa l) w hk hm h
 have cS:=AnyZ.sorted_in Tryz.sortedL Fence.wide 5 trivial trivial trivial trivial rfl (by omega) (sorts_in _) (enters_of Tryz.func82 (by kernel_rfl) rfl) 85 #[.pointer (some ⟨k,0,none⟩)] trivial (enters_of Tryz.func85 (by kernel_rfl) rfl) _ _ (by rw[hsz];simp only[maxLen];omega) (by rw[hsz];omega) w hseq
 refine ((callsIn_wide (n:=5)).1 cS).mono ?_
 rintro e w' ⟨v,ss,rfl,hS,hrow,hnil,hb⟩
 exact names_slice ((D.keys_sorted hu hS).trans (by rw[List.map_map];rfl)) (perm_len hS) hrow hb
theorem keysT_any (mb:Option Nat) (w:World):Calls Tryz.prog 47 #[.map mb] w (fun e w'=>e=.returned (.func (.func 83) #[] #[.pointer (some ⟨w.heap.size,0,none⟩)])∧w'=w.alloc (.cells #[.map mb] 84)) :=
 (callsIn_wide (n:=5)).1 (AnyZ.keys_in Tryz.keysT Fence.wide 5 trivial rfl mb w)
set_option maxHeartbeats 1000000 in
theorem sortedT_any {R:Value→Option (DataW Unit × List MemPlace)} (fa:Nat→Nat) (l:D.NM) (k b:Nat) (w:World) (hk:k < w.heap.size) (hm:w.cell? ⟨k,0,none⟩=some (.map (some b))) (h:w.ownsMap Tryz.prog 9 R b l.length (D.datum fa l)) (hu:D.Up l) (hl:l.length≤1073741824) :
  Calls Tryz.prog 46 #[.func (.func 83) #[] #[.pointer (some ⟨k,0,none⟩)]] w (RetRow w 9 1 (l.map (·.1)).length (scells (l.map (·.1)))):=by
 have hsz:Maps.size (D.datum fa l)=l.length:=by
  unfold D.datum
  rw[Maps.size_eq]
  simp
 have hseq:SeqGives Fence.wide 2 Tryz.prog 83 #[.pointer (some ⟨k,0,none⟩)] encStr (fun ss=>ss.Perm (strKeys (D.datum fa l))) (Maps.size (D.datum fa l)) w :=
  AnyZ.keys_gives (ρ:=Tryz.renKT) { Tryz.keysT with } Fence.wide 2 trivial rfl (by omega) k b l.length (D.datum fa l) w hk hm h
 have cS:=AnyZ.sorted_in Tryz.sortedL Fence.wide 5 trivial trivial trivial trivial rfl (by omega) (sorts_in _) (enters_of Tryz.func82 (by kernel_rfl) rfl) 83 #[.pointer (some ⟨k,0,none⟩)] trivial (enters_of Tryz.func83 (by kernel_rfl) rfl) _ _ (by rw[hsz];simp only[maxLen];omega) (by rw[hsz];omega) w hseq
 refine ((callsIn_wide (n:=5)).1 cS).mono ?_
 rintro e w' ⟨v,ss,rfl,hS,hrow,hnil,hb⟩
 exact names_slice ((D.keys_sorted hu hS).trans (by rw[List.map_map];rfl)) (perm_len hS) hrow hb
theorem cloneM_any (M:DM) (l:D.NM) (b:Nat) (w:World) (h:w.ownsMap Tryz.prog 9 D.ptrR b l.length (D.datum M.fa l)) :
  Calls Tryz.prog 29 #[.map (some b)] w (fun e w'=>e=.returned (.map (some w.heap.size))∧w'.ownsMap Tryz.prog 9 D.ptrR w.heap.size l.length (D.datum M.fa l)∧Below w.heap.size w w'∧w.heap.size < w'.heap.size) :=
 (AnyW.maps_Clone_owns Tryz.cloneD 9 D.ptrR b l.length (D.datum M.fa l) w h).mono fun _ _ ⟨h1,h2,_,h4⟩=>⟨h1,h2,h4,h2.lt⟩
end Go.Proofs.YtkempjcphpnocaaGreatDoor
