/- What chunk.Decode computes, as plain functions on lists of bytes; what is told of some bytes is told of them with more behind. No program here. The walks of the document's Show, and the contract of strconv.Itoa. Conditions: the number is of 64 bits; for Itoa the library's table of powers of ten is as its text lays it. The walks of CopyBytes, Spare and hop's length. Conditions: lists of at most 2^40 elements, a number of 64 bits, the library's table of powers of ten. What every proof of a row with the listed tables shares: the post out of 'Below', the table out of the row's list, the world of the witness. No condition: plain lemmas. Out of the row's list and the shaped world: the two tables of UTF-8, internal/bytealg.MaxLen. No condition: plain lemmas. strconv.Atoi from whatever text, with its two error variables out of the row's list; strings.Trim at the ten digits. Conditions: a text of at most 2^31 bytes; the two variables hold errors. strconv.ParseUint at base 16 and 32 bits, a text of at most eight bytes: the number, or an error. The walks of bytes.IndexByte, bytes.HasSuffix and bytes.Cut at a semicolon; of chunk.size. The walk of the decoder's readSize. The walk of the decoder's readData. The walks of head.whole, head.PrintRequest and of the document's. Conditions: a list of bulk at most 2^30, texts of at most 2^30 bytes, a number of 64 bits, the library's table of powers of ten. -/
import Derived.Test.YtkempjcphpnocaaGreatDoorZ16
import Derived.Lib.AppendIntMem
import Derived.Test.YtkempjcphpnocaaGreatDoorRowA
import Derived.Test.YtkempjcphpnocaaGreatDoorZ00
import Derived.IntWalk
import Derived.ProofKit
import Derived.OpenShut
import Derived.JoinedCond
import Derived.Deep.DeepHandedRow
import Derived.Lib.LaidTab
import Derived.LaidSub
import Derived.Lay
import Derived.Test.YtkempjcphpnocaaGreatDoorShelf
import Derived.Test.YtkempjcphpnocaaGreatDoorIdxAny
import Derived.Lib.LaidU8
import Derived.Stop.LaidErr
import Derived.LaidLaws
import Derived.Lib.AtoiAllMem
import Derived.Test.YtkempjcphpnocaaGreatDoorHeadB
import Derived.Test.YtkempjcphpnocaaGreatDoorZ20
import Derived.Test.YtkempjcphpnocaaGreatDoorZ23
import Derived.Lib.ItoaLen
namespace Go.Proofs.YtkempjcphpnocaaGreatDoor
namespace C
open T (Bs)
def hex (c:UInt8):Int:=if 48 ≤ c.toNat ∧ c.toNat ≤ 57 then (c.toNat:Int) - 48 else if 65 ≤ c.toNat ∧ c.toNat ≤ 70 then (c.toNat:Int) - 55 else if 97 ≤ c.toNat ∧ c.toNat ≤ 102 then (c.toNat:Int) - 87 else -1
def isHex (c:UInt8):Bool:=decide (0 ≤ hex c)
def val (l:Bs):Int:=l.foldl (fun a c=>a * 16 + hex c) 0
def semi (c:UInt8):Bool:=c == 59
def numOf (l:Bs):Bs:=P.upto semi l
def extOf (l:Bs):Bs:=(P.from_ semi l).drop 1
def sizeOf (l:Bs):Int:=if numOf l = [] ∨ 8 < (numOf l).length ∨ (numOf l).all isHex = false ∨ F.text (B (extOf l)) = false then -1 else val (numOf l)
def lf (c:UInt8):Bool:=c == 10
def eolAt (l:Bs):Nat:=(P.upto lf l).length
def lineBad (l:Bs):Prop:=200 ≤ eolAt l ∨ eolAt l = 0 ∨ l.getD (eolAt l - 1) 0 ≠ 13 ∨ sizeOf (l.take (eolAt l - 1)) < 0
instance (l:Bs):Decidable (lineBad l):=inferInstanceAs (Decidable (_ ∨ _))
def lineE (l:Bs):Int:=if eolAt l < l.length then (if lineBad l then 70 else 0) else if 200 ≤ l.length then 70 else 0
def lineN (l:Bs):Nat:=if eolAt l < l.length ∧ ¬ lineBad l then eolAt l + 1 else 0
def lineS (l:Bs):Nat:=if eolAt l < l.length ∧ ¬ lineBad l then (sizeOf (l.take (eolAt l - 1))).toNat else 0
structure CD where
  d:Bs
  f:List FD
  n:Nat
  e:Int
def CD.bad (e:Int):CD:=⟨[],[],0,e⟩
def tailE (l:Bs):Int:=if P.crlf.isPrefixOf l then 0 else if P.hE l 0 ≠ 0 ∨ P.hN l 0 = 0 then P.hE l 0 else (P.parse [] (l.take (P.hN l 0 - 2).toNat)).2
def tailN (l:Bs):Nat:=if P.crlf.isPrefixOf l then 2 else if P.hE l 0 ≠ 0 ∨ P.hN l 0 = 0 then 0 else if (P.parse [] (l.take (P.hN l 0 - 2).toNat)).2 ≠ 0 then 0 else (P.hN l 0).toNat
def tailF (l:Bs):List FD:=if P.crlf.isPrefixOf l then [] else if P.hE l 0 ≠ 0 ∨ P.hN l 0 = 0 then [] else (P.parse [] (l.take (P.hN l 0 - 2).toNat)).1
def dec (data:Bs) (at_:Nat) (l:Bs):CD :=
  if lineE l ≠ 0 ∨ lineN l = 0 then .bad (lineE l)
  else if lineS l = 0 then
    (if tailE (l.drop (lineN l)) ≠ 0 ∨ tailN (l.drop (lineN l)) = 0 then .bad (tailE (l.drop (lineN l))) else ⟨data,tailF (l.drop (lineN l)),at_ + lineN l + tailN (l.drop (lineN l)),0⟩)
  else if 65536 < data.length + lineS l then .bad 71
  else if _h:(l.drop (lineN l)).length < lineS l + 2 then .bad 0
  else if P.crlf.isPrefixOf (l.drop (lineN l + lineS l)) = false then .bad 70
  else dec (data ++ (l.drop (lineN l)).take (lineS l)) (at_ + lineN l + lineS l + 2) (l.drop (lineN l + lineS l + 2))
termination_by l.length
decreasing_by
  rw [List.length_drop] at _h ⊢
  omega
def decode (b:Bs):CD:=dec [] 0 b
end C
end Go.Proofs.YtkempjcphpnocaaGreatDoor
namespace Go.Proofs.YtkempjcphpnocaaGreatDoor
open Go.RowKit
def TabOk (w:World):Prop:=Lib.TabIs Tryz.prog w "internal/strconv.uint64pow10" .u64 Lib.pow10Tab
theorem tab_named:∃ g,Tryz.prog.globalNamed "internal/strconv.uint64pow10" = some g:=⟨4,by kernel_rfl⟩
theorem TabOk.below {w w':World} (h:TabOk w) (hb:Below w.heap.size w w'):TabOk w':=by
  obtain ⟨g,hg⟩:=tab_named
  unfold TabOk Lib.TabIs at h ⊢
  refine var?_below hb hg ?_ h
  unfold World.var? at h
  rw [hg] at h
  simp only [Option.bind_some] at h
  rcases Nat.lt_or_ge g w.heap.size with hlt | hge
  · exact hlt
  · rw [Array.getElem?_eq_none hge] at h; simp at h
theorem TabOk.alloc {w:World} (h:TabOk w) (o:Obj):TabOk (w.alloc o):=h.below ((Below.refl _ _).alloc (Nat.le_refl _) _)
theorem itoa_any (n:Int) (h0:-9223372036854775808 ≤ n) (h1:n ≤ 9223372036854775807) (w:World) (ht:TabOk w):Calls Tryz.prog 102 #[.int .i64 n] w (RetS w (B (Lib.itoa n))):=by
  refine (Tryz.strconv_Itoa n h0 h1 w ht).mono ?_
  rintro e w' ⟨rfl,k,os,rfl⟩
  exact ⟨rfl,Lib.below_grow _ w (Nat.le_refl _) k os⟩
def lows:Nat → Nat → List UInt8
  | 0,_=>[]
  | n + 1,u=>if u = 0 then [] else UInt8.ofNat (48 + u % 10) :: lows n (u / 10)
theorem lows_enough:∀ (n m u:Nat),u ≤ n → u ≤ m → lows n u = lows m u
  | 0,0,u,_,_=>rfl
  | 0,m + 1,u,h,_=>by
    have:u = 0:=by omega
    subst this; rfl
  | n + 1,0,u,_,h=>by
    have:u = 0:=by omega
    subst this; rfl
  | n + 1,m + 1,u,h,h'=>by
    unfold lows
    split
    · rfl
    · rw [lows_enough n m (u / 10) (by omega) (by omega)]
def low (u:Nat):List UInt8:=lows u u
theorem low_zero:low 0 = []:=rfl
theorem low_pos {u:Nat} (h:0 < u):low u = UInt8.ofNat (48 + u % 10) :: low (u / 10):=by
  obtain ⟨n,rfl⟩:∃ n,u = n + 1:=⟨u - 1,by omega⟩
  show lows (n + 1) (n + 1) = _
  rw [lows,if_neg (by omega),low,lows_enough n ((n + 1) / 10) ((n + 1) / 10) (by omega) (Nat.le_refl _)]
theorem dec_low:∀ u:Nat,0 < u → Lib.decDigits u = (low u).reverse:=by
  intro u
  induction u using Nat.strongRecOn with
  | ind u ih =>
    intro h
    rw [low_pos h,List.reverse_cons]
    rw [Lib.decDigits]
    split
    · rename_i h10
      have:u / 10 = 0:=by omega
      rw [this,low_zero,Nat.mod_eq_of_lt h10]; rfl
    · rw [ih (u / 10) (by omega) (by omega)]
theorem itoa_show (n:Int) (h:n ≠ 0):Lib.itoa n = ((low n.natAbs) ++ (if n < 0 then [45] else [])).reverse:=by
  unfold Lib.itoa
  split
  · rw [dec_low n.natAbs (by omega)]; simp
  · rw [dec_low n.toNat (by omega)]
    have:n.toNat = n.natAbs:=by omega
    rw [this]; simp
end Go.Proofs.YtkempjcphpnocaaGreatDoor
namespace Go.Proofs.YtkempjcphpnocaaGreatDoor
open Go.RowKit
def RetC (w:World) (bs:List UInt8) (e:Ending) (w':World):Prop :=
  ∃ A c,e = .returned (.slice A bs.length c) ∧ CRow w' w.heap.size A bs.length c bs ∧ Below w.heap.size w w'
set_option maxHeartbeats 400000 in
theorem copyBytes_any (A:Option Addr) (c:Nat) (bs:List UInt8) (w:World) (hn:bs.length ≤ 1099511627776) (hx:Rd w A bs.length 1 (bcells bs)) :
    Calls Tryz.prog 45 #[.slice A bs.length c] w (RetC w bs):=by
  have HX:=Lib.hid (hx.alloc (.cells #[] 5))
  clear hx
  go_enter Tryz.func45,Tryz.ntmps45
  go_wp2_with (at_builtin; refine appC _ rfl (.tmp 5) (.tmp 6) rfl w.heap.size _ 0 0 [] rfl ⟨rfl,Nat.le_refl _,.inl rfl⟩ A bs.length c bs rfl HX.out (by omega) (by rw [World.size_alloc]; omega) ?_; intro A1 c1 w1 hr1 ha1)
  have hb:=((Below.refl w.heap.size w).alloc (Nat.le_refl _) (.cells #[] 5)).trans (ha1.belowC (⟨rfl,Nat.le_refl _,.inl rfl⟩:CRow _ w.heap.size _ 0 0 []) (by rw [World.size_alloc]; omega))
  have e:0 + bs.length = bs.length:=Nat.zero_add _
  rw [e] at hr1
  go_ret
  exact ⟨A1,c1,rfl,hr1,hb⟩
def marks:List UInt8:=[201,202,203,204,205,206,207,208]
theorem marks_at (k:Nat) (h:k < 8):marks.take (k + 1) = marks.take k ++ [UInt8.ofNat (201 + k)]:=by
  have:∀ j:Fin 8,marks.take (j.1 + 1) = marks.take j.1 ++ [UInt8.ofNat (201 + j.1)]:=by decide
  exact this ⟨k,h⟩
theorem grown_trans {a b c:World} {r:Option Nat} (h1:Below a.heap.size a b) (h2:b.grownBy c r):a.grownBy c r :=
  ⟨h2.os.trans h1.os,h2.tape.trans h1.tape,h2.output.trans h1.output,Nat.le_trans h1.size h2.size,fun k hk hne=>(h2.block k (Nat.lt_of_lt_of_le hk h1.size) hne).trans (h1.block k hk)⟩
end Go.Proofs.YtkempjcphpnocaaGreatDoor
namespace Go.Proofs.YtkempjcphpnocaaGreatDoor
open Go.ChangeShapes Go.WideShapes Go.ChangeAt Go.RowKit
section
variable {H:Type} {enc:TypeId × Value → H} {P:Program}
theorem post_of_below {f:Func} {s:ChangeSpec} {apart fresh handsOn again:Bool} {W W':World} {args:Array Value} {v:Value} {ds gs:List (DataW H)} {before pa pv:List MemPlace}
    (hW:DataW.Whole enc P f.params.toList s.vars apart W args.toList ds gs before)
    (hres:∀ (b:Nat) (sp:Nat → Bool) (hd:Bool),DataW.TrodAll enc P W' b sp hd f.resultTypes.toList (v.resultList f.resultTypes.size) (s.fn H (ds ++ gs)).results [])
    (hargs:∀ sp:Nat → Bool,(∀ p ∈ before,sp p.block = true) → DataW.TrodAll enc P W' 0 sp true f.params.toList args.toList (s.fn H (ds ++ gs)).args pa)
    (hvars:∀ sp:Nat → Bool,(∀ p ∈ before,sp p.block = true) → DataW.TrodVars enc P W' sp s.vars (s.fn H (ds ++ gs)).vars pv)
    (hps:before = pa ++ pv) (hb:Below W.heap.size W W')
    (hok:∀ (j:Nat) (t:TypeId) (r:Value),f.resultTypes[j]? = some t → (v.resultList f.resultTypes.size)[j]? = some r → Value.okWide P W' .any 0 t r) :
    s.post enc P f apart fresh handsOn again W args v W':=by
  have hlt:∀ p ∈ before,p.block < W.heap.size:=fun p hp=>hW.lt p hp
  have hold:∀ p ∈ before,(fun b=>decide (b < W.heap.size)) p.block = true:=fun p hp=>by simpa using hlt p hp
  refine ⟨ds,gs,before,[],pa,pv,hW,hres _ _ _,hargs _ hold,hvars _ hold,World.keptBut_mono (fun p hp=>⟨hp,?_⟩) (hb.frame (· ∈ before)),fun _=>?_⟩
  · rw [hps,List.mem_append] at hp
    exact Or.inr hp
  · obtain ⟨_,_,_,_,_,hz,hn⟩:=hW
    refine ⟨hok,_,_,([] ++ pa) ++ pv,⟨[] ++ pa,pv,trodAll_append (hargs _ (fun _ _=>rfl)) (hres _ _ _),hvars _ (fun _ _=>rfl),rfl,?_,?_⟩,?_⟩
    · intro b off hp
      have hin:MemPlace.cell b off ∈ before:=by rw [hps]; simpa using hp
      rw [hb.frozen (hlt _ hin)]
      exact hz b off hin
    · intro ha
      have:=hn ha
      rw [hps] at this
      simpa using this
    · intro p hp _
      rw [hps]
      simpa using hp
end
theorem own_:ownKnob Tryz.prog.godebug = none:=by kernel_rfl
theorem tab_g:Tryz.prog.globalNamed "internal/strconv.uint64pow10" = some 4:=by kernel_rfl
theorem tab_t:(Tryz.prog.globals[4]?).map (·.type) = some 263:=by kernel_rfl
theorem tab_n:Tryz.prog.cellsOf 263 = 20:=by kernel_rfl
theorem tab_e:Tryz.prog.cellsOf 158 = 1:=by kernel_rfl
theorem tab_ul:Tryz.prog.underlying 263 = some (.array 20 158):=by kernel_rfl
theorem tab_ue:Tryz.prog.underlying 158 = some (.int .u64):=by kernel_rfl
theorem tab_of {W:World} {laid:List (String × DataW Unit)} (h:laidMetH Tryz.prog laid W)
    (hm:laid.filter (fun x=>x.1 == "internal/strconv.uint64pow10") = [("internal/strconv.uint64pow10",Rows.laid_internal_strconv_uint64pow10)]):TabOk W:=by
  have h1:=h.filter (fun x=>x.1 == "internal/strconv.uint64pow10")
  rw [hm] at h1
  exact Lib.tabIs_of_head (rest:=[]) tab_g tab_t tab_ul tab_ue tab_e tab_n h1
theorem int_bounds {a:Int} (h:(Lit.int .i64 a).wf = true):-9223372036854775808 ≤ a ∧ a ≤ 9223372036854775807:=by
  unfold Lit.wf at h
  rw [Bool.and_eq_true,decide_eq_true_eq,decide_eq_true_eq] at h
  exact h
end Go.Proofs.YtkempjcphpnocaaGreatDoor
namespace Go.Proofs.YtkempjcphpnocaaGreatDoor
open Go.Lib
theorem first_eq:Rows.laid_unicode_utf8_first = firstData:=by kernel_rfl
theorem accept_eq:(Rows.laid_unicode_utf8_acceptRanges:DataW Unit) = acceptData:=by kernel_rfl
theorem u8_extra:U8Extra Tryz.prog Tryz.lays260_ren :=
  ⟨by kernel_rfl,by kernel_rfl,by kernel_rfl,by kernel_rfl,by kernel_rfl,by kernel_rfl,by kernel_rfl⟩
theorem u8_of {W:World} {laid:List (String × DataW Unit)} (h:laidMetH Tryz.prog laid W)
    (hm:laid.filter (fun x=>x.1 == "unicode/utf8.acceptRanges" || x.1 == "unicode/utf8.first") = [("unicode/utf8.acceptRanges",Rows.laid_unicode_utf8_acceptRanges),("unicode/utf8.first",Rows.laid_unicode_utf8_first)]) :
    Lib.Utf8Tabs 0 1 W:=by
  have h1:=h.filter (fun x=>x.1 == "unicode/utf8.acceptRanges" || x.1 == "unicode/utf8.first")
  rw [hm] at h1
  have h2:laidMet Tryz.prog [("unicode/utf8.acceptRanges",Rows.laid_unicode_utf8_acceptRanges),("unicode/utf8.first",Rows.laid_unicode_utf8_first)] W:=h1
  exact utf8Tabs_of_reads Tryz.lays260 u8_extra (first_eq ▸ laidMet.reads h2 (by simp)) (accept_eq ▸ laidMet.reads h2 (by simp))
theorem lib_of {W:World} {laid:List (String × DataW Unit)} (h:laidMetH Tryz.prog laid W) (hs:W.ShapedOpen Tryz.prog)
    (hm:laid.filter (fun x=>x.1 == "unicode/utf8.acceptRanges" || x.1 == "unicode/utf8.first") = [("unicode/utf8.acceptRanges",Rows.laid_unicode_utf8_acceptRanges),("unicode/utf8.first",Rows.laid_unicode_utf8_first)]):LibOk W :=
  ⟨u8_of h hm,Tryz.laysM145.s1_3 W hs⟩
end Go.Proofs.YtkempjcphpnocaaGreatDoor
namespace Go.Proofs.YtkempjcphpnocaaGreatDoor
open Go.RowKit
def ErrOk (w:World):Prop:=(∃ t p,w.cell? ⟨5,0,none⟩ = some (.iface t p)) ∧ ∃ t p,w.cell? ⟨6,0,none⟩ = some (.iface t p)
theorem ErrOk.below {w w':World} (h:ErrOk w) (hb:Below w.heap.size w w'):ErrOk w':=by
  obtain ⟨⟨t,p,h1⟩,t2,p2,h2⟩:=h
  exact ⟨⟨t,p,(hb.cell (p:=⟨5,0,none⟩) (cell_lt h1)).trans h1⟩,t2,p2,(hb.cell (p:=⟨6,0,none⟩) (cell_lt h2)).trans h2⟩
theorem star_es: "*" ++ "errors.errorString" = "*errors.errorString":=by decide
theorem row_es (u:TypeId) (h:Tryz.prog.typeName? 3 u = some "*errors.errorString"):u = 276 :=
  typeName_ptr_named (nm:= "errors.errorString") (by rw [star_es]; kernel_rfl) (by kernel_rfl) (by decide) u (by rw [star_es]; exact h)
theorem gS:Tryz.prog.globalNamed "strconv.ErrSyntax" = some 5:=by kernel_rfl
theorem gST:(Tryz.prog.globals[5]?).map (·.type) = some 196:=by kernel_rfl
theorem gR:Tryz.prog.globalNamed "strconv.ErrRange" = some 6:=by kernel_rfl
theorem gRT:(Tryz.prog.globals[6]?).map (·.type) = some 196:=by kernel_rfl
theorem cells_es:Tryz.prog.cellsOf 278 = 1:=by kernel_rfl
theorem cells_st:Tryz.prog.cellsOf 9 = 1:=by kernel_rfl
theorem err_of {W:World} {laid:List (String × DataW Unit)} (h:laidMetH Tryz.prog laid W)
    (hm1:laid.filter (fun x=>x.1 == "strconv.ErrSyntax") = [("strconv.ErrSyntax",Rows.laid_strconv_ErrSyntax)]) (hm2:laid.filter (fun x=>x.1 == "strconv.ErrRange") = [("strconv.ErrRange",Rows.laid_strconv_ErrRange)]):ErrOk W:=by
  have h1:=h.filter (fun x=>x.1 == "strconv.ErrSyntax")
  have h2:=h.filter (fun x=>x.1 == "strconv.ErrRange")
  rw [hm1] at h1
  rw [hm2] at h2
  obtain ⟨a0,s0,hv0,_⟩:=laid_sentinel (r:=[]) h1 gS gST Tryz.underlying196 row_es Tryz.underlying276 Tryz.underlying278 rfl rfl Tryz.underlying9 cells_es cells_st
  obtain ⟨a1,s1,hv1,_⟩:=laid_sentinel (r:=[]) h2 gR gRT Tryz.underlying196 row_es Tryz.underlying276 Tryz.underlying278 rfl rfl Tryz.underlying9 cells_es cells_st
  exact ⟨⟨_,_,by have h0:=World.var?_cell gS hv0 0; simpa using h0⟩,_,_,by have h0:=World.var?_cell gR hv1 0; simpa using h0⟩
def RetA (w:World) (l:List UInt8) (e:Ending) (w':World):Prop :=
  ∃ v b,e = .returned (.tuple #[.int .i64 v,b]) ∧ ((b = .nilIface ∧ Lib.atoiAll l = .ok v) ∨ ((∃ t p,b = .iface t (.pointer p)) ∧ ∀ u,Lib.atoiAll l ≠ .ok u)) ∧ Below w.heap.size w w'
theorem atoi_any (s:ByteArray) (w:World) (hs:s.size ≤ 2147483648) (h:ErrOk w):Calls Tryz.prog 139 #[.string s] w (RetA w (L s)):=by
  obtain ⟨⟨t1,p1,h1⟩,t2,p2,h2⟩:=h
  cases ha:Lib.atoiAll s.data.toList
  case ok v =>
    refine (Tryz.strconv_Atoi_ok s (by omega) v ha w).mono ?_
    rintro e w' ⟨rfl,hw⟩
    refine ⟨v,_,rfl,.inl ⟨rfl,ha⟩,?_⟩
    rcases hw with rfl | ⟨t,rfl⟩
    · exact Below.refl _ _
    · exact Lib.bytesWorld_below _ _ _
  case range =>
    refine (Tryz.strconv_Atoi_range s (by omega) ha _ w h2 (.inr ⟨_,_,rfl⟩)).mono ?_
    rintro e w' ⟨N,rfl,_,_,hb⟩
    exact ⟨_,_,rfl,.inr ⟨⟨_,_,rfl⟩,fun u hu=>by rw [show L s = s.data.toList from rfl,ha] at hu; cases hu⟩,hb⟩
  · refine (Any.strconv_Atoi_syntax Tryz.laysC172 s (by omega) ha _ w h1 (.inr ⟨_,_,rfl⟩)).mono ?_
    rintro e w' ⟨N,rfl,_,_,hb⟩
    exact ⟨_,_,rfl,.inr ⟨⟨_,_,rfl⟩,fun u hu=>by rw [show L s = s.data.toList from rfl,ha] at hu; cases hu⟩,hb⟩
def digs:List UInt8:=[48,49,50,51,52,53,54,55,56,57]
theorem dig_digs (c:UInt8):P.dig c = digs.contains c:=by
  have:∀ n:Fin 256,P.dig (UInt8.ofNat n.1) = digs.contains (UInt8.ofNat n.1):=by decide +kernel
  have h:=this ⟨c.toNat,c.toNat_lt⟩
  simpa using h
theorem drop_nil {p:UInt8 → Bool}:∀ {l:List UInt8},l.dropWhile p = [] ↔ ∀ x ∈ l,p x = true
  | []=>by simp
  | x :: l=>by
    cases hx:p x
    · simp [hx]
    · simp [hx,drop_nil (l:=l)]
theorem trim_digs (l:List UInt8):Lib.trimS l digs = [] ↔ l.all P.dig = true:=by
  have e:P.dig = fun c=>digs.contains c:=funext dig_digs
  unfold Lib.trimS Lib.trimLeftS Lib.trimRightS
  rw [← e,List.all_eq_true]
  constructor
  · intro h
    rw [drop_nil] at h
    have h2:l.reverse.dropWhile P.dig = []:=by
      cases h3:l.reverse.dropWhile P.dig with
      | nil=>rfl
      | cons x r =>
        have h4:=List.head_dropWhile_not P.dig (l:=l.reverse) (by rw [h3]; simp)
        simp only [h3,List.head_cons] at h4
        have h5:=h x (by rw [h3]; simp)
        rw [h4] at h5
        cases h5
    rw [drop_nil] at h2
    exact fun x hx=>h2 x (by simpa using hx)
  · intro h
    have h2:l.reverse.dropWhile P.dig = []:=by
      rw [drop_nil]
      exact fun x hx=>h x (by simpa using hx)
    rw [h2]
    rfl
theorem digTrim (s:ByteArray) (w:World) (hs:s.size ≤ 1099511627776):Calls Tryz.prog 54 #[.string s,.string ⟨#[48,49,50,51,52,53,54,55,56,57]⟩] w (RetS w (B (Lib.trimS (L s) digs))):=by
  refine (Any.strings_Trim_laid Tryz.lays160 (by kernel_rfl) s ⟨#[48,49,50,51,52,53,54,55,56,57]⟩ w (by omega) (by decide) (ascii_of_all (by decide))).mono ?_
  rintro e w' ⟨rfl,hb⟩
  exact ⟨rfl,hb⟩
theorem three_digits:∀ a b c:Fin 10,(match Lib.atoiAll [UInt8.ofNat (48 + a.1),UInt8.ofNat (48 + b.1),UInt8.ofNat (48 + c.1)] with | .ok v=>decide (v = P.stat [UInt8.ofNat (48 + a.1),UInt8.ofNat (48 + b.1),UInt8.ofNat (48 + c.1)]) | _=>false) = true:=by decide +kernel
theorem dig_of {c:UInt8} (h:P.dig c = true):∃ a:Fin 10,c = UInt8.ofNat (48 + a.1):=by
  unfold P.dig at h
  rw [Bool.and_eq_true,decide_eq_true_eq,decide_eq_true_eq] at h
  refine ⟨⟨c.toNat - 48,by omega⟩,?_⟩
  apply UInt8.toNat_inj.1
  rw [UInt8.toNat_ofNat']
  have:=c.toNat_lt
  show c.toNat = (48 + (c.toNat - 48)) % 256
  omega
theorem atoi_code {l:List UInt8} (h:P.code3 l = true):Lib.atoiAll l = .ok (P.stat l):=by
  unfold P.code3 at h
  rw [Bool.and_eq_true,decide_eq_true_eq,List.all_eq_true] at h
  match l,h with
  | [x,y,z],⟨_,h⟩ =>
    obtain ⟨a,rfl⟩:=dig_of (h x (by simp))
    obtain ⟨b,rfl⟩:=dig_of (h y (by simp))
    obtain ⟨c,rfl⟩:=dig_of (h z (by simp))
    have:=three_digits a b c
    split at this
    · rename_i v hv
      rw [hv,of_decide_eq_true this]
    · cases this
end Go.Proofs.YtkempjcphpnocaaGreatDoor
namespace Go.Proofs.YtkempjcphpnocaaGreatDoor
open Go.RowKit
namespace C
theorem val_snoc (l:List UInt8) (c:UInt8):val (l ++ [c]) = val l * 16 + hex c:=by
  unfold val
  rw [List.foldl_append]
  rfl
def lw (c:UInt8):Int:=bits .or .u8 c.toNat 32
def kindOf (c:UInt8):Bool :=
  if 48 ≤ c.toNat ∧ c.toNat ≤ 57 then decide (hex c = (c.toNat:Int) - 48) else
  if 97 ≤ lw c ∧ lw c ≤ 102 then decide (hex c = lw c - 87) && c != 95 else
  decide (hex c = -1) && decide (0 ≤ lw c) && decide (lw c < 256) && (c != 95 || decide (lw c = 127))
theorem kind_all:∀ n:Fin 256,kindOf (UInt8.ofNat n.1) = true:=by decide +kernel
theorem kind (c:UInt8):(48 ≤ c.toNat ∧ c.toNat ≤ 57 ∧ hex c = (c.toNat:Int) - 48) ∨ (¬ (48 ≤ c.toNat ∧ c.toNat ≤ 57) ∧ c.toNat ≠ 95 ∧ 97 ≤ lw c ∧ lw c ≤ 102 ∧ hex c = lw c - 87) ∨ (¬ (48 ≤ c.toNat ∧ c.toNat ≤ 57) ∧ hex c = -1 ∧ 0 ≤ lw c ∧ lw c < 256 ∧ (lw c < 97 ∨ 103 ≤ lw c) ∧ (c.toNat = 95 → lw c = 127)):=by
  have h:=kind_all ⟨c.toNat,c.toNat_lt⟩
  simp only [UInt8.ofNat_toNat] at h
  unfold kindOf at h
  split at h
  · rename_i h1
    exact .inl ⟨h1.1,h1.2,of_decide_eq_true h⟩
  · rename_i h1
    split at h
    · rename_i h2
      rw [Bool.and_eq_true,decide_eq_true_eq] at h
      refine .inr (.inl ⟨h1,fun h3=>?_,h2.1,h2.2,h.1⟩)
      have h4:c = 95:=UInt8.toNat_inj.1 h3
      rw [h4] at h
      exact absurd h.2 (by decide)
    · rename_i h2
      simp only [Bool.and_eq_true,decide_eq_true_eq,Bool.or_eq_true] at h
      refine .inr (.inr ⟨h1,h.1.1.1,h.1.1.2,h.1.2,by omega,fun h3=>?_⟩)
      have h4:c = 95:=UInt8.toNat_inj.1 h3
      rcases h.2 with h5 | h5
      · rw [h4] at h5
        exact absurd h5 (by decide)
      · exact h5
end C
end Go.Proofs.YtkempjcphpnocaaGreatDoor
namespace Go.Proofs.YtkempjcphpnocaaGreatDoor
open Go.RowKit
def addA (A:Option Addr) (c k:Nat):Option Addr:=if c = k then A else A.map fun x=>x.add k
theorem Rd.fromA {w:World} {A:Option Addr} {n c k:Nat} {l:List UInt8} (h:Rd w A n 1 (bcells l)) (hnc:n ≤ c) (hk:k ≤ n):Rd w (addA A c k) (n - k) 1 (bcells (l.drop k)):=by
  have hl:=rd_len h
  by_cases hkn:k = n
  · exact ⟨by simp [bcells,hl],fun h0=>by omega⟩
  · obtain ⟨b,o,rfl,_,_⟩:=h.2 (by omega)
    have e:addA (some ⟨b,o,none⟩) c k = some ⟨b,o + k,none⟩:=by
      unfold addA
      rw [if_neg (by omega)]
      show some ((⟨b,o,none⟩:Addr).add k) = _
      unfold Addr.add
      split <;> simp_all
    rw [e]
    exact h.from_ hk
end Go.Proofs.YtkempjcphpnocaaGreatDoor
namespace Go.Proofs.YtkempjcphpnocaaGreatDoor
open Go.RowKit
theorem addA_end {A:Option Addr} {c:Nat}:addA A c c = A:=if_pos rfl
theorem addA_in {b o c k:Nat} (h:k ≠ c):addA (some ⟨b,o,none⟩) c k = some ⟨b,o + k,none⟩:=by
  unfold addA
  rw [if_neg (by omega)]
  show some ((⟨b,o,none⟩:Addr).add k) = _
  unfold Addr.add
  split <;> simp_all
end Go.Proofs.YtkempjcphpnocaaGreatDoor
namespace Go.Proofs.YtkempjcphpnocaaGreatDoor
open Go.RowKit
theorem whole_bad {l:List UInt8} {fs:List FD} {c:Int} (h:F.printE fs = c) (hc:c ≠ 0):F.wholeB l fs = [] ∧ F.wholeE l fs = c:=by
  have h1:F.wholeE l fs = c:=by unfold F.wholeE; rw [if_neg (by rw [h]; exact hc),h]
  exact ⟨if_neg (by rw [h1]; exact hc),h1⟩
theorem whole_big {l:List UInt8} {fs:List FD} (h:F.printE fs = 0) (hc:8192 < l.length + (F.lines fs).length + 4):F.wholeB l fs = [] ∧ F.wholeE l fs = 51:=by
  have h1:F.wholeE l fs = 51:=by unfold F.wholeE; rw [if_pos h,if_pos hc]
  exact ⟨if_neg (by rw [h1]; decide),h1⟩
theorem whole_ok {l:List UInt8} {fs:List FD} (h:F.printE fs = 0) (hc:¬ 8192 < l.length + (F.lines fs).length + 4):F.wholeB l fs = l ++ [13,10] ++ F.lines fs ++ [13,10] ∧ F.wholeE l fs = 0:=by
  have h1:F.wholeE l fs = 0:=by unfold F.wholeE; rw [if_pos h,if_neg hc]
  exact ⟨if_pos h1,h1⟩
set_option maxRecDepth 100000 in
set_option maxHeartbeats 1000000 in
theorem whole_any (l:ByteArray) (A:Option Addr) (c:Nat) (fs:List FD) (w:World) (hl:l.size ≤ 8589934592) (hf:F.bulk fs ≤ 1073741824) (hx:Rd w A fs.length 2 (fcells fs)) :
    Calls Tryz.prog 101 #[.string l,.slice A fs.length c] w (RetBE w (F.wholeB (L l) fs) (F.wholeE (L l) fs)):=by
  have HP:=Lib.hid (print_any A c fs w hf hx)
  have hll:=F.lines_len fs
  have hn1:(F.lines fs).length ≤ 4294967296:=by omega
  have hlz:=L_size l
  rcases F.printE_cases fs with hp | hp | hp
  · have HBIG:=Lib.hid (fun h=>whole_big (l:=L l) hp h)
    have HOK:=Lib.hid (fun h=>whole_ok (l:=L l) hp h)
    rw [F.printB_ok hp,hp] at HP
    have HLZ:=Lib.hid hlz
    generalize F.wholeB (L l) fs = WB at *
    generalize F.wholeE (L l) fs = WE at *
    obtain ⟨T,hT⟩:∃ T,T = B (F.lines fs):=⟨_,rfl⟩
    have hTl:F.lines fs = L T:=by rw [hT]; rfl
    obtain ⟨N,hN⟩:∃ N,N = T.size:=⟨_,rfl⟩
    have hNl:(L T).length = N:=by rw [hN,L_size]
    rw [hTl] at HBIG HOK HP hn1
    rw [hNl] at HBIG HOK hn1
    have HNL:=Lib.hid hNl
    have HN:=Lib.hid hN
    clear hp hx hll hlz hT hTl hN hNl
    by_cases hbig:8192 < l.size + N + 4
    · have HB:=Lib.hid (HBIG.out (by have:=HLZ.out; omega))
      go_enter Tryz.func101,Tryz.ntmps101
      go_wp2_with fail
      refine HP.out.mono ?_
      rintro e w1 ⟨R,d,rfl,hr,hb1⟩
      rw [HNL.out]
      have HB1:=Lib.hid hb1
      clear HP hr hb1
      go_wp2
      refine bodyPost_ret (v:=.tuple #[.slice none 0 0,.int .i64 51]) (by simp [results,Tryz.results101,go_sem]) rfl ?_
      exact RetBE.none_ HB1.out HB.out.1 HB.out.2
    · have HB:=Lib.hid (HOK.out (by have:=HLZ.out; omega))
      go_enter Tryz.func101,Tryz.ntmps101
      go_wp2_with fail
      refine HP.out.mono ?_
      rintro e w1 ⟨R,d,rfl,hr,hb1⟩
      rw [HNL.out] at hr ⊢
      have hcv1:=conv_bs hr.rd d
      rw [B_L] at hcv1
      have hs1:l.size + 2 ≤ 9223372036854775807:=by omega
      have hs2:l.size + 2 + T.size ≤ 9223372036854775807:=by have:=HN.out; omega
      have hs3:l.size + 2 + T.size + 2 ≤ 9223372036854775807:=by have:=HN.out; omega
      obtain ⟨cc,W,hcv2,hcr,hcb⟩:=conv_sbC w1 (l ++ ⟨#[13,10]⟩ ++ T ++ ⟨#[13,10]⟩)
      have HCR:=Lib.hid hcr
      have HB1:=Lib.hid (below_next hb1 hcb)
      have hz1:=hb1.size
      clear HP hr hb1 hcr hcb
      go_wp2
      refine bodyPost_ret (v:=.tuple #[.slice (some ⟨w1.heap.size,0,none⟩) (l ++ ⟨#[13,10]⟩ ++ T ++ ⟨#[13,10]⟩).size cc,.int .i64 0]) (by simp [results,Tryz.results101,go_sem]) rfl ?_
      have hL:L (l ++ ⟨#[13,10]⟩ ++ T ++ ⟨#[13,10]⟩) = WB:=by
        rw [HB.out.1]
        simp only [L_append]
        rfl
      have hS:(l ++ ⟨#[13,10]⟩ ++ T ++ ⟨#[13,10]⟩:ByteArray).size = WB.length:=by rw [L_size,hL]
      have hr:=HCR.out
      rw [hL,hS] at hr
      rw [HB.out.2,hS]
      exact ⟨_,cc,rfl,hr.mono hz1,HB1.out⟩
  all_goals
    have HB:=Lib.hid (whole_bad (l:=L l) hp (by decide))
    rw [F.printB_bad (by rw [hp]; decide),hp] at HP
    generalize F.wholeB (L l) fs = WB at *
    generalize F.wholeE (L l) fs = WE at *
    clear hp hx hll hlz hn1
    go_enter Tryz.func101,Tryz.ntmps101
    go_wp2_with fail
    refine HP.out.mono ?_
    rintro e w1 ⟨R,d,rfl,hr,hb1⟩
    have HB1:=Lib.hid hb1
    clear HP hr hb1
    go_wp2
    first
    | (refine bodyPost_ret (v:=.tuple #[.slice none 0 0,.int .i64 40]) (by simp [results,Tryz.results101,go_sem]) rfl ?_
       exact RetBE.none_ HB1.out HB.out.1 HB.out.2)
    | (refine bodyPost_ret (v:=.tuple #[.slice none 0 0,.int .i64 42]) (by simp [results,Tryz.results101,go_sem]) rfl ?_
       exact RetBE.none_ HB1.out HB.out.1 HB.out.2)
end Go.Proofs.YtkempjcphpnocaaGreatDoor
