/- A text's bytes appended to a list of bytes that the call owns: both ways. No condition: a law of the walk. What Get and Via compute; bounds by the bulk of the fields. No program here. What is stripped is stripped again as it is; a Via that was put is got. No program here. What is sent to an origin: its fields, and that they are clean. No program here. What head.PrintRequest, PrintResponse and fields.Print compute. No program here. What Bytes answers, in plain Lean. What head.Request and fields.Parse compute, as plain functions on lists of bytes. No program here. trial The walks of tok: Fold, and of the document's Lower. The walks of tok.Trim, split, List, and of the document's Trim, Pieces, List. The walks of tok.List, and of the document's Trim and List. -/
import Derived.Test.YtkempjcphpnocaaGreatDoorRowA
import Derived.Test.YtkempjcphpnocaaGreatDoorZ23
import Derived.Test.YtkempjcphpnocaaGreatDoorLib
import Derived.Lib.Join
import Derived.Lib.ItoaNum
import Derived.Lib.ItoaLen
import Derived.Lib.IndexMore
import Derived.Test.YtkempjcphpnocaaGreatDoorShelf
import Derived.Shelf.Strings.SlTrimAscii
namespace Go.Proofs.YtkempjcphpnocaaGreatDoor
open Go Go.RowKit
theorem scell_bytes (s:ByteArray):(Array.map (fun b:UInt8=>Value.int IntKind.u8 (b.toNat:Int)) s.data) = (bcells (L s)).toArray:=by
  apply Array.ext'
  simp [bcells,L]
theorem extract_all (s:ByteArray):(Array.map (fun b:UInt8=>Value.int IntKind.u8 (b.toNat:Int)) s.data).extract 0 s.size = (bcells (L s)).toArray:=by
  rw [← scell_bytes]
  have hs:s.size = (Array.map (fun b:UInt8=>Value.int IntKind.u8 (b.toNat:Int)) s.data).size:=by rw [Array.size_map]; rfl
  rw [hs,Array.extract_size]
section
variable {P:Program} (w:World)
theorem run_appStr (t u ty e:TypeId) (i:TypeInfo) (z:Value) (ht:P.underlying t = some (.slice e)) (hu:P.underlying u = some .string) (hi:P.info? e = some i) (hz:i.zero = some z)
    (hsize:i.size = 1) (hby:i.bytes = 1) (hzs:z.cells.size = 1) (hE:e = 5)
    (base g n c:Nat) (bs:List UInt8) (hc0:c ≠ 0) (hown:CRow w base (some ⟨g,0,none⟩) n c bs)
    (s:ByteArray) (h63:n + s.size ≤ 4398046511104) (hbase:base ≤ w.heap.size) :
    ∃ A' c' w',(Builtin.append_ #[t,u] ty #[.slice (some ⟨g,0,none⟩) n c,.string s]).run P w = .ok (.slice A' (n + s.size) c') w' ∧ CRow w' base A' (n + s.size) c' (bs ++ L s) ∧ App w w' (some ⟨g,0,none⟩) c A' c':=by
  obtain ⟨hl,hnc,hcase⟩:=hown
  rcases hcase with h | ⟨g2,hg2,hB,hg,hf,hcl⟩
  · exact absurd h hc0
  have hgg:g2 = g:=by
    injection hg2 with h
    injection h with h
    exact h.symm
  subst hgg
  have hnl:(bcells (L s)).length = s.size:=by rw [bcells_length,L_size]
  have hLs:(L s).length = s.size:=(L_size s).symm
  by_cases hroom:n + s.size ≤ c
  · have hst:=run_storeCells_cells (P:=P) g2 n (bcells (L s)) 0 w (fun j hj=>by simp at hj ⊢; exact (hf _ (by omega)).1) (fun j hj=>by simp at hj ⊢; exact (hf _ (by omega)).2) (bcells_one _)
    simp only [Nat.add_zero] at hst
    have hrun:(Builtin.append_ #[t,u] ty #[.slice (some ⟨g2,0,none⟩) n c,.string s]).run P w = .ok (.slice (some ⟨g2,0,none⟩) (n + s.size) c) (w.setCells g2 n (bcells (L s))):=by
      have hx:=extract_all s
      simp [Builtin.append_,run_underlying ht,run_underlying hu,sizeOf,typeInfo,hi,hsize,Builtin.lenOf,Builtin.firstCells,hroom,Addr.add_lit,hx,hst]
    have hsome:∀ j,j < (bcells (L s)).length → (w.cell? ⟨g2,n + j,none⟩).isSome = true:=fun j hj=>(hf _ (by omega)).1
    have hsz:∀ (vs:List Value) (o:Nat) (u:World),(u.setCells g2 o vs).heap.size = u.heap.size:=by
      intro vs
      induction vs with
      | nil=>intro o u; rfl
      | cons v vs ih =>
        intro o u
        show ((u.setCell ⟨g2,o,none⟩ v).setCells g2 (o + 1) vs).heap.size = _
        rw [ih]
        simp [World.setCell]
    have hoth:∀ (vs:List Value) (o:Nat) (u:World) (k:Nat),k ≠ g2 → (u.setCells g2 o vs).heap[k]? = u.heap[k]?:=by
      intro vs
      induction vs with
      | nil=>intro o u k _; rfl
      | cons v vs ih =>
        intro o u k hk
        show ((u.setCell ⟨g2,o,none⟩ v).setCells g2 (o + 1) vs).heap[k]? = _
        rw [ih _ _ k hk]
        unfold World.setCell
        simp only [Array.getElem?_modify]
        rw [if_neg (Ne.symm hk)]
    refine ⟨_,c,_,hrun,⟨by rw [List.length_append,hl,hLs],hroom,.inr ⟨g2,rfl,hB,by rw [hsz]; exact hg,fun j hj=>⟨?_,?_⟩,fun j u hu=>?_⟩⟩,⟨?_,.inl ⟨rfl,rfl⟩⟩⟩
    · by_cases hin:n ≤ j ∧ j < n + (bcells (L s)).length
      · have:=World.cell?_setCells_in g2 (bcells (L s)) n w hsome (j - n) (by omega)
        rw [show n + (j - n) = j from by omega] at this
        rw [this]; rfl
      · rw [World.cell?_setCells_out g2 (bcells (L s)) n w ⟨g2,j,none⟩ (fun _ _=>by simp only; omega)]
        exact (hf j hj).1
    · rw [World.frozen?_setCells]; exact (hf j hj).2
    · have e:bcells (bs ++ L s) = bcells bs ++ bcells (L s):=bcells_append bs (L s)
      rw [e] at hu
      have hbl:(bcells bs).length = n:=by simp [bcells,hl]
      by_cases hin:j < n
      · rw [List.getElem?_append_left (by omega)] at hu
        rw [World.cell?_setCells_out g2 (bcells (L s)) n w ⟨g2,j,none⟩ (fun _ _=>by simp only; omega)]
        exact hcl j u hu
      · rw [List.getElem?_append_right (by omega),hbl] at hu
        have hj:=(List.getElem?_eq_some_iff.1 hu).1
        have:=World.cell?_setCells_in g2 (bcells (L s)) n w hsome (j - n) hj
        rw [show n + (j - n) = j from by omega] at this
        rw [this,← (List.getElem?_eq_some_iff.1 hu).2]
    · have hob:ownB (some ⟨g2,0,none⟩) c = some g2:=by unfold ownB; rw [if_neg hc0]; rfl
      rw [hob]
      have hfl:∀ (vs:List Value) (o:Nat) (u:World),(u.setCells g2 o vs).os = u.os ∧ (u.setCells g2 o vs).tape = u.tape ∧ (u.setCells g2 o vs).output = u.output:=by
        intro vs
        induction vs with
        | nil=>intro o u; exact ⟨rfl,rfl,rfl⟩
        | cons v vs ih =>
          intro o u
          have:=ih (o + 1) (u.setCell ⟨g2,o,none⟩ v)
          exact ⟨this.1,this.2.1,this.2.2⟩
      exact ⟨(hfl _ _ _).1,(hfl _ _ _).2.1,(hfl _ _ _).2.2,by rw [hsz]; exact Nat.le_refl _,fun k _ hne=>hoth _ _ _ k (fun e=>hne (by rw [e]))⟩
  · have hn:¬ (n + s.size ≤ c):=hroom
    have h63':¬ (9223372036854775807 < ((n:Int) + (s.size:Int))):=by omega
    have hfit:Builtin.nextslicecap (n + s.size) c * i.bytes ≤ 281474976710656:=growslice_fits (by omega) (by rw [hby]; omega)
    have h48':¬ (281474976710656 < Builtin.nextslicecap (n + s.size) c * i.bytes):=by omega
    have hfo:=run_firstCells_some (P:=P) w.drew i.size n ⟨g2,0,none⟩ n c (bcells bs) (by rw [hsize,bcells_length,hl,Nat.mul_one]) (fun j v hv=>by
      have:(⟨g2,0,none⟩:Addr).add j = ⟨g2,0 + j,none⟩:=by unfold Addr.add; split <;> simp_all
      rw [this,Nat.zero_add]
      simpa using hcl j v hv)
    have hge:=grownCap_ge w (n + s.size) c e
    have hcm:grownCap w (n + s.size) c e ≤ maxLen:=grownCap_le_maxLen w (n + s.size) c e (by simp only [maxLen]; omega)
    obtain ⟨cs,hcs⟩:∃ cs,cs = (bcells bs ++ bcells (L s)).toArray ++ Builtin.zeroCells z.cells (grownCap w (n + s.size) c e - (n + s.size)):=⟨_,rfl⟩
    have hrun:(Builtin.append_ #[t,u] ty #[.slice (some ⟨g2,0,none⟩) n c,.string s]).run P w = .ok (.slice (some ⟨w.heap.size,0,none⟩) (n + s.size) (grownCap w (n + s.size) c e)) (w.drew.alloc (.cells cs e)):=by
      have hx:=extract_all s
      simp [Builtin.append_,run_underlying ht,run_underlying hu,sizeOf,typeInfo,zeroValue,hi,hz,Builtin.lenOf,hn,h63',h48',Question.forced,hfo,newRow,grownCap]
      simp [Builtin.firstCells,hcs,grownCap,scell_bytes]
      rw [← Array.append_assoc,show (bcells bs).toArray ++ (bcells (L s)).toArray = (bcells bs ++ bcells (L s)).toArray by simp]
    have hrow:(w.drew.alloc (.cells cs e)).heap[w.heap.size]? = some (.cells cs e (0,0)):=heap_alloc_new w.drew _
    have hl2:(bcells bs ++ bcells (L s)).length = n + s.size:=by rw [List.length_append,bcells_length,hl,hnl]
    have hcsz:cs.size = grownCap w (n + s.size) c e:=by
      rw [hcs,Array.size_append,List.size_toArray,size_zeroCells,hzs,hl2]
      omega
    have hown:(w.drew.alloc (.cells cs e)).ownsRow w.heap.size e 1 (.slice (some ⟨w.heap.size,0,none⟩) (n + s.size) (grownCap w (n + s.size) c e)) (n + s.size) (bcells bs ++ bcells (L s)):=by
      refine ⟨by rw [hl2,Nat.mul_one],.inr ⟨w.heap.size,_,_,rfl,Nat.le_refl _,hrow,hge,hcm,by rw [hcsz,Nat.mul_one],?_⟩⟩
      rw [hcs,Array.toList_append,Nat.mul_one]
      have h9:(bcells bs ++ bcells (L s)).toArray.toList.length = n + s.size:=by simpa using hl2
      rw [← h9]
      exact List.take_left
    subst hE
    have hgr:World.grownBy w (w.drew.alloc (.cells cs 5)) (ownB (some ⟨g2,0,none⟩) c):=⟨rfl,rfl,rfl,by simp,fun k hk _=>Below.heap_alloc w.drew _ k hk⟩
    refine ⟨_,_,_,hrun,(Row.crow (.inl ?_)).mono hbase,⟨hgr,.inr ⟨_,rfl,Nat.le_refl _⟩⟩⟩
    rw [bcells_append]
    exact hown
end
section
variable (w:World) {ops:Array Oper} {rest:List Oper} {o:Oper} {a:Act} {K:Act → World → Prop} {Q:Exit → Act → World → Prop}
theorem Tryz.undStr:Tryz.prog.underlying 9 = some .string:=by kernel_rfl
theorem appStr (hgd:o.guard = none) (s x:Operand) (ho:o.op = .call { callee:=.builtin .append,args:=#[s,x],argTypes:=#[26,9] })
    (base g n c:Nat) (xs:List UInt8) (hs:a.eval s = .slice (some ⟨g,0,none⟩) n c) (hc0:c ≠ 0) (hown:CRow w base (some ⟨g,0,none⟩) n c xs)
    (str:ByteArray) (hx:a.eval x = .string str) (h63:n + str.size ≤ 4398046511104) (hbase:base ≤ w.heap.size)
    (h:∀ A' c' w',CRow w' base A' (n + str.size) c' (xs ++ L str) → App w w' (some ⟨g,0,none⟩) c A' c' → wpList Tryz.prog ops Q rest (a.put o.dst (.slice A' (n + str.size) c')) w'):wpList Tryz.prog ops Q (o :: rest) a w :=
  wpList_plain hgd fun K hK=>by
    obtain ⟨i0,hi0,hz0,hz1,hz2⟩:=info_parts Tryz.infoB
    obtain ⟨A',c',w',hrun,h2,h3⟩:=run_appStr (P:=Tryz.prog) w 26 9 o.type 5 i0 _ Tryz.underlying26 Tryz.undStr hi0 hz0 hz1 hz2 rfl rfl base g n c xs hc0 hown str h63 hbase
    unfold Oper.wp execOp
    simp only [ho,resolve,invoke,builtin,Sem.run_bind,Sem.run_pure,Result.andThen_ok,List.map_toArray,List.map_cons,List.map_nil,hs,hx,hrun]
    exact hK _ _ (h A' c' w' h2 h3)
end
end Go.Proofs.YtkempjcphpnocaaGreatDoor
namespace Go.Proofs.YtkempjcphpnocaaGreatDoor
open Go
namespace F
def sep:List UInt8:=[44,32]
def glue (vs:List ByteArray):List UInt8:=Lib.join (vs.map L) sep
def joined (fs:List FD) (name:ByteArray):ByteArray:=B (glue (values fs name))
def has (fs:List FD) (name:ByteArray):Bool:=!(values fs name).isEmpty
def via3:ByteArray:=⟨#[86,105,97]⟩
def viaOf (fs:List FD) (minor:Int) (name:ByteArray):ByteArray :=
  (if has fs via3 then joined fs via3 ++ ⟨#[44,32]⟩ else joined fs via3) ++ ⟨#[49,46]⟩ ++ B (Lib.itoa minor) ++ ⟨#[32]⟩ ++ name
end F
end Go.Proofs.YtkempjcphpnocaaGreatDoor
namespace Go.Proofs.YtkempjcphpnocaaGreatDoor
open Go
namespace F
def hostN:ByteArray:=⟨#[72,111,115,116]⟩
def expectN:ByteArray:=⟨#[69,120,112,101,99,116]⟩
def clenN:ByteArray:=⟨#[67,111,110,116,101,110,116,45,76,101,110,103,116,104]⟩
def three:List ByteArray:=[hostN,expectN,clenN]
def four:List ByteArray:=[⟨#[104,111,115,116]⟩,⟨#[101,120,112,101,99,116]⟩,⟨#[99,111,110,116,101,110,116,45,108,101,110,103,116,104]⟩,⟨#[118,105,97]⟩]
def hostOf (host:ByteArray) (port:Int):ByteArray:=if port = 80 then host else host ++ (⟨#[58]⟩ ++ B (Lib.itoa port))
def sent (fs:List FD) (m:Int) (via host:ByteArray) (port:Int):List FD :=
  put ((hostN,hostOf host port) :: without (strip fs) three) via3 (viaOf fs m via)
def ten:List ByteArray:=[⟨#[67,111,110,110,101,99,116,105,111,110]⟩,⟨#[75,101,101,112,45,65,108,105,118,101]⟩,⟨#[80,114,111,120,121,45,67,111,110,110,101,99,116,105,111,110]⟩,⟨#[80,114,111,120,121,45,65,117,116,104,111,114,105,122,97,116,105,111,110]⟩,⟨#[84,69]⟩,⟨#[84,114,97,105,108,101,114]⟩,⟨#[84,114,97,110,115,102,101,114,45,69,110,99,111,100,105,110,103]⟩,⟨#[85,112,103,114,97,100,101]⟩,clenN,expectN]
end F
end Go.Proofs.YtkempjcphpnocaaGreatDoor
namespace Go.Proofs.YtkempjcphpnocaaGreatDoor
open Go
namespace F
def good (v:ByteArray):Bool:=(L v).all T.textB && decide (T.trim (L v) = L v)
def okF (f:FD):Bool:=T.token (L f.1) && good f.2
def line (f:FD):List UInt8:=L f.1 ++ [58,32] ++ L f.2 ++ [13,10]
def lines (fs:List FD):List UInt8:=fs.flatMap line
def visB (c:UInt8):Bool:=decide (33 ≤ c.toNat) && decide (c.toNat ≤ 126)
def visible (s:ByteArray):Bool:=(L s).all visB && !(L s).isEmpty
def text (s:ByteArray):Bool:=(L s).all T.textB
def printE (fs:List FD):Int:=if fs.all okF then (if 100 < fs.length then 42 else 0) else 40
def printB (fs:List FD):List UInt8:=if printE fs = 0 then lines fs else []
def wholeE (l:List UInt8) (fs:List FD):Int:=if printE fs = 0 then (if 8192 < l.length + (lines fs).length + 4 then 51 else 0) else printE fs
def wholeB (l:List UInt8) (fs:List FD):List UInt8:=if wholeE l fs = 0 then l ++ [13,10] ++ lines fs ++ [13,10] else []
def respLine (s:Int) (r:ByteArray) (n:Int):List UInt8:=[72,84,84,80,47,49,46] ++ Lib.itoa n ++ [32] ++ Lib.itoa s ++ [32] ++ L r
def respE (s:Int) (r:ByteArray) (n:Int) (fs:List FD):Int:=if n < 0 ∨ 1 < n ∨ text r = false then 50 else if s < 100 ∨ 599 < s then 53 else wholeE (respLine s r n) fs
def respB (s:Int) (r:ByteArray) (n:Int) (fs:List FD):List UInt8:=if respE s r n fs = 0 then wholeB (respLine s r n) fs else []
theorem lines_snoc (fs:List FD) (k:Nat) (h:k < fs.length):lines (fs.take (k + 1)) = lines (fs.take k) ++ line fs[k]:=by
  unfold lines
  rw [List.take_succ_eq_append_getElem h,List.flatMap_append]
  simp
theorem line_len (f:FD):(line f).length = f.1.size + f.2.size + 4:=by
  unfold line
  simp only [List.length_append,List.length_cons,List.length_nil,L_size]
  omega
theorem lines_len:∀ fs:List FD,(lines fs).length ≤ 4 * bulk fs
  | []=>Nat.le_refl _
  | f :: l=>by
    have:=lines_len l
    have h:=line_len f
    unfold lines at this ⊢
    rw [List.flatMap_cons,List.length_append,h]
    simp only [bulk]
    omega
theorem lines_take (fs:List FD) (k:Nat):(lines (fs.take k)).length ≤ (lines fs).length:=by
  conv=>rhs; rw [← List.take_append_drop k fs]
  unfold lines
  rw [List.flatMap_append,List.length_append]
  omega
theorem all_take_succ (p:FD → Bool) (fs:List FD) (k:Nat) (h:k < fs.length):(fs.take (k + 1)).all p = ((fs.take k).all p && p fs[k]):=by
  rw [List.take_succ_eq_append_getElem h,List.all_append]
  simp
theorem all_false_at (p:FD → Bool) (fs:List FD) (k:Nat) (h:k < fs.length) (hp:p fs[k] = false):fs.all p = false:=by
  rw [List.all_eq_false]
  exact ⟨_,List.getElem_mem h,by simp [hp]⟩
theorem printE_bad {fs:List FD} (h:fs.all okF = false):printE fs = 40:=by unfold printE; simp [h]
theorem printE_many {fs:List FD} (h:fs.all okF = true) (h2:100 < fs.length):printE fs = 42:=by unfold printE; simp [h,h2]
theorem printE_ok {fs:List FD} (h:fs.all okF = true) (h2:¬ 100 < fs.length):printE fs = 0:=by unfold printE; simp [h,h2]
theorem printB_ok {fs:List FD} (h:printE fs = 0):printB fs = lines fs:=if_pos h
theorem printB_bad {fs:List FD} (h:printE fs ≠ 0):printB fs = []:=if_neg h
theorem printE_cases (fs:List FD):printE fs = 0 ∨ printE fs = 40 ∨ printE fs = 42:=by
  unfold printE
  split <;> (try split) <;> simp
theorem wholeB_len (l:List UInt8) (fs:List FD):(wholeB l fs).length ≤ 8192:=by
  unfold wholeB
  split
  · rename_i h
    unfold wholeE at h
    split at h
    · split at h
      · cases h
      · simp only [List.length_append,List.length_cons,List.length_nil]; omega
    · rename_i h2
      exact absurd h h2
  · simp
end F
end Go.Proofs.YtkempjcphpnocaaGreatDoor
namespace Go.Proofs.YtkempjcphpnocaaGreatDoor
namespace F
def connN:ByteArray:=⟨#[67,111,110,110,101,99,116,105,111,110]⟩
def two:List ByteArray:=[connN,⟨#[84,114,97,110,115,102,101,114,45,69,110,99,111,100,105,110,103]⟩]
end F
theorem respB_len (s:Int) (r:ByteArray) (m:Int) (fs:List FD):(F.respB s r m fs).length ≤ 8192:=by
  unfold F.respB
  split
  · exact F.wholeB_len _ _
  · simp
end Go.Proofs.YtkempjcphpnocaaGreatDoor
namespace Go.Proofs.YtkempjcphpnocaaGreatDoor
theorem B_size' (l:List UInt8):(B l).size = l.length:=by
  show l.toArray.size = l.length
  simp
namespace P
open T (Bs)
def crlf:Bs:=[13,10]
def crlf2:Bs:=[13,10,13,10]
def eol (c:UInt8):Bool:=c == 13 || c == 10
def upto (p:UInt8 → Bool) (l:Bs):Bs:=l.takeWhile fun c=>!p c
def from_ (p:UInt8 → Bool) (l:Bs):Bs:=l.dropWhile fun c=>!p c
theorem upto_from (p:UInt8 → Bool) (l:Bs):upto p l ++ from_ p l = l:=List.takeWhile_append_dropWhile
theorem upto_len (p:UInt8 → Bool) (l:Bs):(upto p l).length + (from_ p l).length = l.length:=by
  have:=congrArg List.length (upto_from p l)
  rwa [List.length_append] at this
def nameOf (l:Bs):Bs:=upto (· == 58) l
def valOf (l:Bs):Bs:=T.trim ((from_ (· == 58) l).drop 1)
def oneE (l:Bs):Int:=if l.head? = some 32 ∨ l.head? = some 9 then 41 else if from_ (· == 58) l = [] ∨ T.token (nameOf l) = false ∨ F.good (B (valOf l)) = false then 40 else 0
def oneF (l:Bs):FD:=(B (nameOf l),B (valOf l))
theorem one_small (l:Bs):(oneF l).1.size + (oneF l).2.size ≤ l.length:=by
  have h1:=upto_len (· == 58) l
  have h2:=T.trim_len ((from_ (· == 58) l).drop 1)
  unfold oneF
  rw [B_size',B_size']
  unfold nameOf valOf
  rw [List.length_drop] at h2
  omega
def parse (out:List FD) (l:Bs):List FD × Int :=
  if l = [] then (out,0) else
  match _h:from_ eol l with
  | 13 :: 10 :: r=>if oneE (upto eol l) ≠ 0 then ([],oneE (upto eol l)) else if out.length = 100 then ([],42) else parse (out ++ [oneF (upto eol l)]) r
  | _=>([],40)
termination_by l.length
decreasing_by
  have h1:=upto_len eol l
  rw [_h] at h1
  simp only [List.length_cons] at h1
  omega
theorem upto_eq {p:UInt8 → Bool} {l:Bs} {k:Nat} (hk:k ≤ l.length) (hall:∀ j (h:j < l.length),j < k → p l[j] = false) (hstop:∀ h:k < l.length,p l[k] = true):upto p l = l.take k ∧ from_ p l = l.drop k:=by
  induction l generalizing k with
  | nil=>simp [upto,from_]
  | cons x l ih =>
    cases k with
    | zero =>
      have hx:p x = true:=hstop (by simp)
      simp [upto,from_,hx]
    | succ k =>
      have hx:p x = false:=hall 0 (by simp) (by omega)
      have:=ih (k:=k) (by simpa using hk) (fun j h hj=>by have:=hall (j + 1) (by simpa using h) (by omega); simpa using this) (fun h=>by have:=hstop (by simpa using h); simpa using this)
      unfold upto from_ at this ⊢
      simp [hx,this.1,this.2]
theorem from_nil {p:UInt8 → Bool} {l:Bs}:from_ p l = [] ↔ ∀ x ∈ l,p x = false:=by
  unfold from_
  induction l with
  | nil=>simp
  | cons x l ih =>
    cases hx:p x
    · simp [hx,ih]
    · simp [hx]
theorem parse_nil (out:List FD):parse out [] = (out,0):=by
  rw [parse.eq_def,if_pos rfl]
theorem parse_bad {l:Bs} (out:List FD) (h0:l ≠ []) (h:∀ r,from_ eol l ≠ 13 :: 10 :: r):parse out l = ([],40):=by
  rw [parse.eq_def,if_neg h0]
  split
  · rename_i r hr
    exact absurd hr (h r)
  · rfl
theorem parse_step {l r:Bs} (out:List FD) (h0:l ≠ []) (h:from_ eol l = 13 :: 10 :: r):parse out l = if oneE (upto eol l) ≠ 0 then ([],oneE (upto eol l)) else if out.length = 100 then ([],42) else parse (out ++ [oneF (upto eol l)]) r:=by
  rw [parse.eq_def,if_neg h0]
  split
  · rename_i r' hr
    rw [h] at hr
    injection hr with _ hr
    injection hr with _ hr
    subst hr
    rfl
  · rename_i hr
    exact absurd h (hr r)
theorem parse_cases (l:Bs):l = [] ∨ (l ≠ [] ∧ ∀ r,from_ eol l ≠ 13 :: 10 :: r) ∨ (l ≠ [] ∧ ∃ r,from_ eol l = 13 :: 10 :: r):=by
  by_cases h0:l = []
  · exact .inl h0
  · by_cases h:∃ r,from_ eol l = 13 :: 10 :: r
    · exact .inr (.inr ⟨h0,h⟩)
    · exact .inr (.inl ⟨h0,fun r hr=>h ⟨r,hr⟩⟩)
theorem parse_facts:∀ (k:Nat) (out:List FD) (l:Bs),l.length ≤ k → out.length ≤ 100 → F.bulk (parse out l).1 ≤ F.bulk out + l.length ∧ (parse out l).1.length ≤ 100 ∧ ((parse out l).2 ≠ 0 → (parse out l).1 = [])
  | k,out,l,hk,ho=>by
    rcases parse_cases l with h | ⟨h0,h⟩ | ⟨h0,r,h⟩
    · subst h
      rw [parse_nil]
      exact ⟨Nat.le_add_right _ _,ho,fun h=>absurd rfl h⟩
    · rw [parse_bad out h0 h]
      exact ⟨Nat.zero_le _,Nat.zero_le _,fun _=>rfl⟩
    · rw [parse_step out h0 h]
      have hl:=upto_len eol l
      rw [h] at hl
      simp only [List.length_cons] at hl
      split
      · exact ⟨Nat.zero_le _,Nat.zero_le _,fun _=>rfl⟩
      · split
        · exact ⟨Nat.zero_le _,Nat.zero_le _,fun _=>rfl⟩
        · rename_i h100
          cases k with
          | zero=>omega
          | succ k =>
            obtain ⟨g1,g2,g3⟩:=parse_facts k (out ++ [oneF (upto eol l)]) r (by omega) (by rw [List.length_append]; simp only [List.length_cons,List.length_nil]; omega)
            refine ⟨?_,g2,g3⟩
            rw [F.bulk_append] at g1
            simp only [F.bulk] at g1
            have:=one_small (upto eol l)
            omega
def skip:Bs → Nat
  | 13 :: 10 :: r=>skip r + 2
  | _=>0
def hIdx (b:Bs) (s:Nat):Int:=Lib.index (b.drop s) crlf2
def hE (b:Bs) (s:Nat):Int:=if hIdx b s < 0 then (if b.length < 8192 then 0 else 51) else if 8192 < s + hIdx b s + 4 then 51 else 0
def hN (b:Bs) (s:Nat):Int:=if hIdx b s < 0 ∨ 8192 < s + hIdx b s + 4 then 0 else s + hIdx b s + 4
def hText (b:Bs) (s:Nat):Bs:=(b.drop s).take (hIdx b s + 2).toNat
def hLine (b:Bs) (s:Nat):Bs:=(hText b s).take (Lib.index (hText b s) crlf).toNat
def hBlock (b:Bs) (s:Nat):Bs:=(hText b s).drop ((Lib.index (hText b s) crlf).toNat + 2)
def dig (c:UInt8):Bool:=decide (48 ≤ c.toNat) && decide (c.toNat ≤ 57)
def http10:Bs:=[72,84,84,80,47,49,46,48]
def http11:Bs:=[72,84,84,80,47,49,46,49]
def verShape (l:Bs):Bool:=decide (l.length = 8) && decide (l.take 5 = [72,84,84,80,47]) && dig (l.getD 5 0) && decide (l.getD 6 0 = 46) && dig (l.getD 7 0)
def verE (l:Bs):Int:=if verShape l = false then 50 else if l = http10 ∨ l = http11 then 0 else 52
def verN (l:Bs):Int:=if l = http11 then 1 else 0
structure RQ where
  m:ByteArray
  t:ByteArray
  v:Int
  fs:List FD
  n:Int
  e:Int
def RQ.bad (e:Int):RQ:=⟨⟨#[]⟩,⟨#[]⟩,0,[],0,e⟩
def sp (c:UInt8):Bool:=c == 32
def methodOf (l:Bs):Bs:=upto sp l
def behind (l:Bs):Bs:=(from_ sp l).drop 1
def hostsOf (fs:List FD):Int:=(F.values fs ⟨#[72,111,115,116]⟩).length
def reqOf (line block:Bs) (n:Int):RQ :=
  if T.token (methodOf line) = false ∨ F.visible (B (methodOf (behind line))) = false then .bad 50
  else if verE (behind (behind line)) ≠ 0 then .bad (verE (behind (behind line)))
  else if (parse [] block).2 ≠ 0 then .bad (parse [] block).2
  else if hostsOf (parse [] block).1 > 1 ∨ hostsOf (parse [] block).1 < verN (behind (behind line)) then .bad 40
  else ⟨B (methodOf line),B (methodOf (behind line)),verN (behind (behind line)),(parse [] block).1,n,0⟩
def request (b:Bs):RQ:=if hE b (skip b) ≠ 0 ∨ hN b (skip b) = 0 then .bad (hE b (skip b)) else reqOf (hLine b (skip b)) (hBlock b (skip b)) (hN b (skip b))
end P
end Go.Proofs.YtkempjcphpnocaaGreatDoor
namespace Go.Proofs.YtkempjcphpnocaaGreatDoor
open Go.RowKit
set_option maxHeartbeats 400000 in
theorem sameFields_any (A B:Option Addr) (n m c d:Nat) (xs ys:List FD) (w:World) (hn:n ≤ 1099511627776) (hm:m ≤ 1099511627776) (hx:Rd w A n 2 (fcells xs)) (hy:Rd w B m 2 (fcells ys)) (hxl:xs.length = n) (hyl:ys.length = m) :
    Calls Tryz.prog 86 #[.slice A n c,.slice B m d] w (RetB w (decide (xs = ys))):=by
  have HX:=Lib.hid hxl
  have HY:=Lib.hid hyl
  clear hxl hyl
  by_cases hnm:n = m
  · subst hnm
    go_enter Tryz.func86,Tryz.ntmps86
    go_wp2
    go_loopw [5] (fun i wr=>∃ k:Nat,k ≤ n ∧ i = .int .i64 k ∧ xs.take k = ys.take k ∧ ∃ q,wr = w.drewN q) (fun i _=>n - (intOf i).toNat)
    case atStart=>exact ⟨0,Nat.zero_le _,rfl,rfl,0,rfl⟩
    case round =>
      obtain ⟨k,hk,rfl,he,q,rfl⟩:=hrel
      have HE:=Lib.hid he; clear he
      by_cases hlt:k < n
      · obtain ⟨b1,o1,rfl,hl1,c1,c2⟩:=hx.field hlt HX.out
        obtain ⟨b2,o2,rfl,hl2,d1,d2⟩:=hy.field hlt HY.out
        have hneq:=fun w=>neqF (xs[k]'(by have:=HX.out; omega)) (ys[k]'(by have:=HY.out; omega)) w
        have hdec:=tf (decide (xs[k]'(by have:=HX.out; omega) = ys[k]'(by have:=HY.out; omega)))
        rcases hdec with hd | hd
        · go_wp2
          go_region
          go_wp2
          go_roundw
          case rel=>exact ⟨k + 1,by omega,by go_num,take_eq_snoc _ _ HE.out (of_decide_eq_true hd),_,rfl⟩
          case measure=>simp [intOf]; omega
        · go_wp2
          go_region
          go_wp2
          go_ret
          exact ⟨ret_bool (by
            symm; apply decide_eq_false
            intro e
            subst e
            simp at hd),below_drewN (Below.refl _ _) _⟩
      · have hkn:k = n:=by omega
        have hfin:xs = ys:=by
          have:=HE.out
          have h1:=HX.out
          have h2:=HY.out
          rw [List.take_of_length_le (by omega),List.take_of_length_le (by omega)] at this
          exact this
        have HF:=Lib.hid hfin
        clear hkn hfin
        go_wp2
        go_ret
        exact ⟨ret_bool (by rw [decide_eq_true HF.out]),below_drewN (Below.refl _ _) _⟩
  · have h1:((n:Int) == (m:Int)) = false:=by simp; omega
    have h2:((n:Int) != (m:Int)) = true:=by simp; omega
    go_enter Tryz.func86,Tryz.ntmps86
    go_wp2
    go_ret
    exact ⟨ret_bool (by have:=HX.out; have:=HY.out; symm; apply decide_eq_false; rintro rfl; omega),Below.refl _ _⟩
set_option maxHeartbeats 400000 in
theorem copyFields_any (A:Option Addr) (n c:Nat) (xs:List FD) (w:World) (hn:n ≤ 1099511627776) (hx:Rd w A n 2 (fcells xs)) :
    Calls Tryz.prog 80 #[.slice A n c] w (RetRow w 167 2 n (fcells xs)):=by
  go_enter Tryz.func80,Tryz.ntmps80
  go_wp2_with (at_builtin; refine appF _ rfl (.tmp 5) (.tmp 6) rfl w.heap.size _ 0 0 [] rfl (Row.empty _ _ _ _ _) A n c xs rfl (hx.alloc _) (by omega) (by simp) ?_; intro A1 c1 w1 hr1 ha1; simp only [Nat.zero_add,List.nil_append] at hr1)
  go_ret
  exact ⟨A1,c1,by simp,hr1,((Below.refl _ _).alloc (Nat.le_refl _) _).trans (ha1.below (Row.empty _ _ 167 2 _) (by simp))⟩
end Go.Proofs.YtkempjcphpnocaaGreatDoor
namespace Go.Proofs.YtkempjcphpnocaaGreatDoor
open Go.RowKit
theorem trimS_eq (l:List UInt8):Lib.trimS l [32,9] = T.trim l:=by
  unfold Lib.trimS Lib.trimLeftS Lib.trimRightS T.trim
  have:T.blank = fun c=>([32,9]:List UInt8).contains c:=funext T.blank_eq
  rw [T.trim_comm,T.trimR,this]
theorem strTrim (s:ByteArray) (w:World) (hs:s.size ≤ 1099511627776):Calls Tryz.prog 54 #[.string s,.string ⟨#[32,9]⟩] w (RetS w (B (T.trim (L s)))):=by
  refine (Any.strings_Trim_laid Tryz.lays160 (by kernel_rfl) s ⟨#[32,9]⟩ w (by omega) (by decide) (ascii_of_all (by decide))).mono ?_
  rintro e w' ⟨rfl,hb⟩
  refine ⟨?_,hb⟩
  rw [← trimS_eq]; rfl
set_option maxHeartbeats 400000 in
theorem trim_any (s:ByteArray) (w:World) (hs:s.size ≤ 1099511627776) :
    Calls Tryz.prog 175 #[.string s] w (RetS w (B (T.trim (L s)))):=by
  go_enter Tryz.func175,Tryz.ntmps175
  go_wp2_with fail
  refine (strTrim s w hs).mono ?_
  rintro e w1 ⟨rfl,hb1⟩
  go_wp2
  go_ret
  exact ⟨rfl,hb1⟩
def SplitAt (c:UInt8) (l:List UInt8) (k f:Nat) (q:Bool) (done:List (List UInt8)):Prop :=
  f ≤ k ∧ f ≤ l.length ∧ k ≤ l.length + 1 ∧ T.pieces c false [] l = done ++ T.pieces c q ((l.take k).drop f) (l.drop k)
theorem SplitAt.start (c:UInt8) (l:List UInt8):SplitAt c l 0 0 false []:=⟨Nat.le_refl _,Nat.zero_le _,Nat.zero_le _,by simp⟩
theorem SplitAt.cut {c:UInt8} {l:List UInt8} {k f:Nat} {done:List (List UInt8)} (h:SplitAt c l k f false done) (hk:k < l.length) (h34:¬ l[k] = 34) (hx:l[k] = c):SplitAt c l (k + 1) (k + 1) false (done ++ [(l.take k).drop f]):=by
  refine ⟨Nat.le_refl _,by omega,by omega,?_⟩
  rw [h.2.2.2,T.pieces_step c false hk h.1,if_neg (by simp),if_neg h34,if_pos ⟨rfl,hx⟩,List.append_assoc]; rfl
theorem SplitAt.on {c:UInt8} {l:List UInt8} {k f:Nat} {q:Bool} {done:List (List UInt8)} (h:SplitAt c l k f q done) (hk:k < l.length) (h92:¬ (q = true ∧ l[k] = 92)) (h34:¬ l[k] = 34) (hx:¬ (q = false ∧ l[k] = c)):SplitAt c l (k + 1) f q done:=by
  refine ⟨by have:=h.1; omega,h.2.1,by omega,?_⟩
  rw [h.2.2.2,T.pieces_step c q hk h.1,if_neg h92,if_neg h34,if_neg hx]
theorem SplitAt.fin {c:UInt8} {l:List UInt8} {k f:Nat} {q:Bool} {done:List (List UInt8)} (h:SplitAt c l k f q done) (hk:l.length ≤ k):T.pieces c false [] l = done ++ [l.drop f]:=by
  rw [h.2.2.2,T.pieces_end c q hk]
end Go.Proofs.YtkempjcphpnocaaGreatDoor
