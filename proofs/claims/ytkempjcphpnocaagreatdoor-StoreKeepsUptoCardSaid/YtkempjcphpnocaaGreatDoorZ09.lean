/- The stand-in disk in memory: which blocks it has, what they hold, what a step may turn. No condition: plain lemmas. The walks of the disk's small functions: Down, Steps, good, slices.Contains at numbers, begin. Conditions: texts of at most 2^40 bytes, at most 2^40 steps that fail. -/
import Derived.Test.YtkempjcphpnocaaGreatDoorZ11
import Derived.Test.YtkempjcphpnocaaGreatDoorRowA
import Derived.Test.YtkempjcphpnocaaGreatDoorZ20
import Derived.Test.YtkempjcphpnocaaGreatDoorZ02
import Derived.Test.YtkempjcphpnocaaGreatDoorZ00
import Derived.IntWalk
namespace Go.Proofs.YtkempjcphpnocaaGreatDoor
open Go Go.RowKit Go.Maps
def Tag (w:World) (k:Nat) (t:TypeId):Prop:=∃ cs l,w.heap[k]? = some (.cells cs t l)
def MapB (w:World) (k:Nat):Prop:=∃ es cl,w.heap[k]? = some (.map es cl)
section
variable {w w':World} {b k m:Nat} {cs:Array Value} {t t' e:TypeId} {r:Option Nat} {A:Option Addr} {base s n c:Nat} {xs:List Value}
theorem Tag.ne (h:Tag w k t) (h':Tag w m t') (hn:t ≠ t'):k ≠ m:=by
  rintro rfl
  obtain ⟨c1,l1,e1⟩:=h
  obtain ⟨c2,l2,e2⟩:=h'
  rw [e1] at e2
  injection e2 with e2
  injection e2 with _ e3
  exact hn e3
theorem Tag.map (h:Tag w k t) (h':MapB w m):k ≠ m:=by
  rintro rfl
  obtain ⟨c1,l1,e1⟩:=h
  obtain ⟨c2,l2,e2⟩:=h'
  rw [e1] at e2
  cases e2
theorem Blk.tag (h:Blk w b cs t):Tag w b t:=⟨_,_,h⟩
theorem ownsMap_tag {K:TypeId} {R:Value → Option (DataW Unit × List MemPlace)} {D:DataW Unit} (h:w.ownsMap Tryz.prog K R b n D):MapB w b:=by
  obtain ⟨es,cl,hb,_⟩:=h
  exact ⟨es,cl,hb⟩
theorem Row.tag (h:Row w base e s A n c xs) (hk:ownB A c = some k):Tag w k e:=by
  unfold ownB at hk
  split at hk
  · cases hk
  · rename_i hc
    rcases h with h | h
    · rcases h.2 with ⟨hv,_⟩ | ⟨g,cap,cur,hv,_,hg,_⟩
      · injection hv with hA
        rw [hA] at hk
        cases hk
      · injection hv with hA
        rw [hA] at hk
        obtain rfl:g = k:=by simpa using hk
        exact ⟨_,_,hg⟩
    · exact absurd h.2.1 hc
theorem Blk.keptG (h:Blk w b cs t) (hg:w.grownBy w' r) (hne:r ≠ some b):Blk w' b cs t:=(hg.block b h.lt (fun e=>hne e.symm)).trans h
theorem Row.keptG (h:Row w base e s A n c xs) (hg:w.grownBy w' r) (hne:∀ k,ownB A c = some k → r ≠ some k):Row w' base e s A n c xs:=by
  by_cases hc:c = 0
  · have hn:=h.cap.1
    have hn0:n = 0:=by omega
    subst hn0
    exact .inr ⟨rfl,hc,List.eq_nil_of_length_eq_zero (by have:=h.len; simpa using this)⟩
  · rcases h with h | h
    · refine .inl (h.kept (row:=r) hg ?_)
      cases A with
      | none=>exact .inl rfl
      | some a =>
        refine .inr fun e=>hne a.block (by unfold ownB; rw [if_neg hc]; rfl) ?_
        rw [← e]
        rfl
    · exact .inr h
end
def All2 {α β:Type} (R:α → β → Prop):List α → List β → Prop
  | [],[]=>True
  | a :: l,b :: m=>R a b ∧ All2 R l m
  | _,_=>False
theorem All2.imp {α β:Type} {R S:α → β → Prop}:∀ {l:List α} {m:List β},All2 R l m → (∀ a b,R a b → S a b) → All2 S l m
  | [],[],_,_=>trivial
  | _ :: _,_ :: _,h,hi=>⟨hi _ _ h.1,h.2.imp hi⟩
theorem All2.len {α β:Type} {R:α → β → Prop}:∀ {l:List α} {m:List β},All2 R l m → l.length = m.length
  | [],[],_=>rfl
  | _ :: _,_ :: _,h=>by rw [List.length_cons,List.length_cons,All2.len h.2]
theorem All2.snoc {α β:Type} {R:α → β → Prop}:∀ {l:List α} {m:List β} {a:α} {b:β},All2 R l m → R a b → All2 R (l ++ [a]) (m ++ [b])
  | [],[],_,_,_,h=>⟨h,trivial⟩
  | _ :: _,_ :: _,_,_,h,hr=>⟨h.1,h.2.snoc hr⟩
structure DM where
  d:Nat
  mN:Nat
  mS:Nat
  PA:Option Addr
  pc:Nat
  pv:List Value
  fa:Nat → Nat
  da:Nat → Option Addr
  dc:Nat → Nat
  FA:Option Addr
  fc:Nat
def ChgV (w:World) (B:Nat) (fa:Nat → Nat):D.Chg → Value → Prop
  | .put nm no,v=>∃ bf bn,v = .func (.func 96) #[] #[.pointer (some ⟨bf,0,none⟩),.pointer (some ⟨bn,0,none⟩)] ∧ B ≤ bf ∧ B ≤ bn ∧
      Blk w bf #[.pointer (some ⟨fa no,0,none⟩)] 75 ∧ Blk w bn #[.string nm] 9
  | .del nm,v=>∃ bn,v = .func (.func 75) #[] #[.pointer (some ⟨bn,0,none⟩)] ∧ B ≤ bn ∧ Blk w bn #[.string nm] 9
  | .ren a b no,v=>∃ ba bf bb,v = .func (.func 99) #[] #[.pointer (some ⟨ba,0,none⟩),.pointer (some ⟨bf,0,none⟩),.pointer (some ⟨bb,0,none⟩)] ∧ B ≤ ba ∧ B ≤ bf ∧ B ≤ bb ∧
      Blk w ba #[.string a] 9 ∧ Blk w bf #[.pointer (some ⟨fa no,0,none⟩)] 75 ∧ Blk w bb #[.string b] 9
def icells (l:List Int):List Value:=l.map fun z=>.int .i64 z
structure FileAt (B:Nat) (M:DM) (s:D.Dsk) (no:Nat) (w:World):Prop where
  blk:Blk w (M.fa no) #[.int .i64 no,.slice (M.da no) (s.size no) (M.dc no),.int .i64 (s.firm.getD no 0:Nat)] 78
  row:Row w B 5 1 (M.da no) (s.size no) (M.dc no) (bcells (s.data.getD no []))
  ge:B ≤ M.fa no
structure DkAt (B:Nat) (M:DM) (s:D.Dsk) (w:World):Prop where
  blk:Blk w M.d #[.map (some M.mN),.map (some M.mS),.slice M.PA s.pend.length M.pc,.int .i64 s.data.length,.int .i64 s.room,.slice M.FA s.fails.length M.fc,.int .i64 s.power,.int .i64 s.n] 71
  now:w.ownsMap Tryz.prog 9 D.ptrR M.mN s.now.length (D.datum M.fa s.now)
  safe:w.ownsMap Tryz.prog 9 D.ptrR M.mS s.safe.length (D.datum M.fa s.safe)
  ne:M.mN ≠ M.mS
  pend:Row w B 115 1 M.PA s.pend.length M.pc M.pv
  chg:All2 (ChgV w B M.fa) s.pend M.pv
  fails:Row w B 3 1 M.FA s.fails.length M.fc (icells s.fails)
  files:∀ no,no < s.data.length → FileAt B M s no w
  apart:∀ i j,i < s.data.length → j < s.data.length → i ≠ j → M.fa i ≠ M.fa j ∧ ∀ k,ownB (M.da i) (M.dc i) = some k → ownB (M.da j) (M.dc j) ≠ some k
  ge:B ≤ M.d ∧ B ≤ M.mN ∧ B ≤ M.mS
def DM.foot (M:DM) (s:D.Dsk) (k:Nat):Prop:=k = M.d ∨ k = M.mN ∨ k = M.mS ∨ ownB M.PA M.pc = some k ∨ ∃ no,no < s.data.length ∧ (k = M.fa no ∨ ownB (M.da no) (M.dc no) = some k)
structure Stepped (M:DM) (s:D.Dsk) (w:World) (M':DM) (s':D.Dsk) (w':World):Prop where
  os:w'.os = w.os
  tape:w'.tape = w.tape
  output:w'.output = w.output
  size:w.heap.size ≤ w'.heap.size
  block:∀ k,k < w.heap.size → ¬ M.foot s k → w'.heap[k]? = w.heap[k]?
  foot:∀ k,M'.foot s' k → M.foot s k ∨ w.heap.size ≤ k
  same:M'.d = M.d
theorem Stepped.refl (M:DM) (s:D.Dsk) (w:World):Stepped M s w M s w:=⟨rfl,rfl,rfl,Nat.le_refl _,fun _ _ _=>rfl,fun _ h=>.inl h,rfl⟩
theorem Stepped.trans {M1 M2 M3:DM} {s1 s2 s3:D.Dsk} {w1 w2 w3:World} (h:Stepped M1 s1 w1 M2 s2 w2) (k:Stepped M2 s2 w2 M3 s3 w3):Stepped M1 s1 w1 M3 s3 w3 :=
  ⟨k.os.trans h.os,k.tape.trans h.tape,k.output.trans h.output,Nat.le_trans h.size k.size,fun i hi hn=>(k.block i (Nat.lt_of_lt_of_le hi h.size) (fun hf=>by
    rcases h.foot i hf with h1 | h1
    · exact hn h1
    · omega)).trans (h.block i hi hn),fun i hf=>by
    rcases k.foot i hf with h1 | h1
    · exact h.foot i h1
    · exact .inr (Nat.le_trans h.size h1),k.same.trans h.same⟩
theorem Stepped.below {M:DM} {s:D.Dsk} {w w':World} (h:Below w.heap.size w w'):Stepped M s w M s w':=⟨h.os,h.tape,h.output,h.size,fun k hk _=>h.block k hk,fun _ h=>.inl h,rfl⟩
section
variable {B:Nat} {M:DM} {s:D.Dsk} {w w':World} {r:Option Nat}
theorem ChgV.kept {fa:Nat → Nat} {c:D.Chg} {v:Value} (h:ChgV w B fa c v) (hg:w.grownBy w' r) (hne:∀ k t,r = some k → Tag w k t → t ≠ 75 ∧ t ≠ 9):ChgV w' B fa c v:=by
  have hb:∀ {b:Nat} {cs:Array Value} {t:TypeId},(t = 75 ∨ t = 9) → Blk w b cs t → Blk w' b cs t:=fun ht hb=>hb.keptG hg (fun e=>by
    have:=hne _ _ e hb.tag
    rcases ht with rfl | rfl
    · exact this.1 rfl
    · exact this.2 rfl)
  cases c with
  | put nm no =>
    obtain ⟨bf,bn,h1,h2,h3,h4,h5⟩:=h
    exact ⟨bf,bn,h1,h2,h3,hb (.inl rfl) h4,hb (.inr rfl) h5⟩
  | del nm =>
    obtain ⟨bn,h1,h2,h3⟩:=h
    exact ⟨bn,h1,h2,hb (.inr rfl) h3⟩
  | ren a b no =>
    obtain ⟨ba,bf,bb,h1,h2,h3,h4,h5,h6,h7⟩:=h
    exact ⟨ba,bf,bb,h1,h2,h3,h4,hb (.inr rfl) h5,hb (.inl rfl) h6,hb (.inr rfl) h7⟩
theorem DkAt.below (h:DkAt B M s w) (hb:Below w.heap.size w w'):DkAt B M s w':=by
  have hg:w.grownBy w' none:=⟨hb.os,hb.tape,hb.output,hb.size,fun k hk _=>hb.block k hk⟩
  exact ⟨h.blk.below hb,h.now.kept hg (by simp),h.safe.kept hg (by simp),h.ne,h.pend.below hb,h.chg.imp (fun c v hc=>hc.kept hg (fun k t e=>by cases e)),h.fails.below hb,
    fun no hn=>⟨(h.files no hn).blk.below hb,(h.files no hn).row.below hb,(h.files no hn).ge⟩,h.apart,h.ge⟩
theorem DkAt.cells (h:DkAt B M s w):w.cell? ⟨M.d,0,none⟩ = some (.map (some M.mN)) ∧ w.cell? ⟨M.d,1,none⟩ = some (.map (some M.mS)) ∧ w.cell? ⟨M.d,2,none⟩ = some (.slice M.PA s.pend.length M.pc) ∧ w.cell? ⟨M.d,3,none⟩ = some (.int .i64 s.data.length) ∧
    w.cell? ⟨M.d,4,none⟩ = some (.int .i64 s.room) ∧ w.cell? ⟨M.d,5,none⟩ = some (.slice M.FA s.fails.length M.fc) ∧ w.cell? ⟨M.d,6,none⟩ = some (.int .i64 s.power) ∧ w.cell? ⟨M.d,7,none⟩ = some (.int .i64 s.n) :=
  ⟨h.blk.cell 0 rfl,h.blk.cell 1 rfl,h.blk.cell 2 rfl,h.blk.cell 3 rfl,h.blk.cell 4 rfl,h.blk.cell 5 rfl,h.blk.cell 6 rfl,h.blk.cell 7 rfl⟩
theorem DkAt.count (h:DkAt B M s w) (n:Int):DkAt B M { s with n:=n } (w.setCell ⟨M.d,7,none⟩ (.int .i64 n)):=by
  have hg:=grown_set w M.d 7 (.int .i64 n)
  have hT:=h.blk.tag
  have hne:∀ k t,some M.d = some k → Tag w k t → t ≠ 75 ∧ t ≠ 9:=fun k t e ht=>by
    cases e
    obtain ⟨c1,l1,e1⟩:=hT
    obtain ⟨c2,l2,e2⟩:=ht
    rw [e1] at e2
    injection e2 with e2
    injection e2 with _ e3
    subst e3
    decide
  refine ⟨h.blk.set 7 _,h.now.kept hg (fun e=>hT.map (ownsMap_tag h.now) (by simpa using e.symm)),h.safe.kept hg (fun e=>hT.map (ownsMap_tag h.safe) (by simpa using e.symm)),h.ne,
    h.pend.keptG hg (fun k hk e=>(hT.ne (h.pend.tag hk) (by decide)) (by simpa using e)),h.chg.imp (fun c v hc=>hc.kept hg hne),h.fails.keptG hg (fun k hk e=>(hT.ne (h.fails.tag hk) (by decide)) (by simpa using e)),
    fun no hn=>⟨(h.files no hn).blk.keptG hg (fun e=>(hT.ne (h.files no hn).blk.tag (by decide)) (by simpa using e)),(h.files no hn).row.keptG hg (fun k hk e=>(hT.ne ((h.files no hn).row.tag hk) (by decide)) (by simpa using e)),(h.files no hn).ge⟩,
    h.apart,h.ge⟩
theorem Stepped.set {M:DM} {s s':D.Dsk} {w:World} {i:Nat} {x:Value} (hs:s'.data.length = s.data.length):Stepped M s w M s' (w.setCell ⟨M.d,i,none⟩ x) :=
  ⟨rfl,rfl,rfl,by rw [World.size_setCell]; exact Nat.le_refl _,fun k _ hn=>by
    unfold World.setCell
    simp only [Array.getElem?_modify]
    rw [if_neg (fun e=>hn (.inl e.symm))],fun k hf=>.inl (by unfold DM.foot at *; rw [hs] at hf; exact hf),rfl⟩
end
end Go.Proofs.YtkempjcphpnocaaGreatDoor
namespace Go.Proofs.YtkempjcphpnocaaGreatDoor
open Go Go.RowKit Go.Maps
namespace D
def okS:List UInt8:=[97,98,99,100,101,102,103,104,105,106,107,108,109,110,111,112,113,114,115,116,117,118,119,120,121,122,48,49,50,51,52,53,54,55,56,57,46,45,95,47]
theorem okB_in (c:UInt8):okB c = okS.contains c:=by
  have h:∀ n:Fin 256,okB (UInt8.ofNat n.1) = okS.contains (UInt8.ofNat n.1):=by decide +kernel
  have:=h ⟨c.toNat,c.toNat_lt⟩
  simpa using this
theorem trim_set (S l:List UInt8):Lib.trimS l S = [] ↔ l.all (fun c=>S.contains c) = true:=by
  unfold Lib.trimS Lib.trimLeftS Lib.trimRightS
  rw [List.all_eq_true]
  constructor
  · intro h
    rw [drop_nil] at h
    have h2:l.reverse.dropWhile (fun c=>S.contains c) = []:=by
      cases h3:l.reverse.dropWhile (fun c=>S.contains c) with
      | nil=>rfl
      | cons x r =>
        have h4:=List.head_dropWhile_not (fun c=>S.contains c) (l:=l.reverse) (by rw [h3]; simp)
        simp only [h3,List.head_cons] at h4
        have h5:=h x (by rw [h3]; simp)
        rw [h4] at h5
        cases h5
    rw [drop_nil] at h2
    exact fun x hx=>h2 x (by simpa using hx)
  · intro h
    have h2:l.reverse.dropWhile (fun c=>S.contains c) = []:=by
      rw [drop_nil]
      exact fun x hx=>h x (by simpa using hx)
    rw [h2]
    rfl
end D
set_option maxRecDepth 100000 in
theorem okTrim (s:ByteArray) (w:World) (hs:s.size ≤ 1099511627776):Calls Tryz.prog 54 #[.string s,.string ⟨#[97,98,99,100,101,102,103,104,105,106,107,108,109,110,111,112,113,114,115,116,117,118,119,120,121,122,48,49,50,51,52,53,54,55,56,57,46,45,95,47]⟩] w (RetS w (B (Lib.trimS (L s) D.okS))):=by
  refine (Any.strings_Trim_laid Tryz.lays160 (by kernel_rfl) s ⟨#[97,98,99,100,101,102,103,104,105,106,107,108,109,110,111,112,113,114,115,116,117,118,119,120,121,122,48,49,50,51,52,53,54,55,56,57,46,45,95,47]⟩ w (by omega) (by decide) (ascii_of_all (by decide))).mono ?_
  rintro e w' ⟨rfl,hb⟩
  exact ⟨rfl,hb⟩
set_option maxHeartbeats 1000000 in
theorem down_any (B:Nat) (M:DM) (s:D.Dsk) (w:World) (h:DkAt B M s w):Calls Tryz.prog 49 #[.pointer (some ⟨M.d,0,none⟩)] w (RetB w s.down):=by
  obtain ⟨y0,y1,y2,y3,y4,y5,y6,y7⟩:=h.cells
  obtain ⟨G,hG⟩:∃ G,s.down = G:=⟨_,rfl⟩
  have HG:Hid (G = (decide (0 ≤ s.power) && decide (s.n = s.power))):=Lib.hid hG.symm
  rw [hG]
  generalize s.power = pw at *
  generalize s.n = nn at *
  clear h hG y0 y1 y2 y3 y4 y5
  go_enter Tryz.func49,Tryz.ntmps49
  by_cases h0:0 ≤ pw
  · have h0i:pw ≥ 0:=h0
    by_cases h1:nn = pw
    · have h1b:(nn == pw) = true:=beq_iff_eq.2 h1
      go_upto_region 1 with fail
      go_region
      go_wp2
      go_ret
      exact ⟨ret_bool (by rw [HG.out]; simp [h0,h1]),(Below.refl _ _).drew⟩
    · have h1b:(nn == pw) = false:=beq_eq_false_iff_ne.2 h1
      go_upto_region 1 with fail
      go_region
      go_wp2
      go_ret
      exact ⟨ret_bool (by rw [HG.out]; simp [h0,h1]),(Below.refl _ _).drew⟩
  · have h0i:¬ pw ≥ 0:=h0
    go_upto_region 1 with fail
    go_region
    go_wp2
    go_ret
    exact ⟨ret_bool (by rw [HG.out,decide_eq_false (show ¬ 0 ≤ pw by omega)]; rfl),(Below.refl _ _).drew⟩
theorem steps_any (B:Nat) (M:DM) (s:D.Dsk) (w:World) (h:DkAt B M s w):Calls Tryz.prog 24 #[.pointer (some ⟨M.d,0,none⟩)] w (RetP w (.int .i64 s.n)):=by
  obtain ⟨y0,y1,y2,y3,y4,y5,y6,y7⟩:=h.cells
  clear h y0 y1 y2 y3 y4 y5 y6
  go_enter Tryz.func24,Tryz.ntmps24
  go_wp2
  go_ret
  exact ⟨rfl,rfl⟩
set_option maxRecDepth 100000 in
set_option maxHeartbeats 1000000 in
theorem goodName_any (s:ByteArray) (w:World) (hs:s.size ≤ 1099511627776):Calls Tryz.prog 27 #[.string s] w (RetB w (D.good s)):=by
  have HT:=Lib.hid (okTrim s w hs)
  obtain ⟨G,hG⟩:∃ G,D.good s = G:=⟨_,rfl⟩
  have HG:Hid (G = ((L s).all D.okB && decide (1 ≤ s.size) && decide (s.size ≤ 64))):=Lib.hid hG.symm
  have HA:Hid (Lib.trimS (L s) D.okS = [] ↔ (L s).all D.okB = true):=Lib.hid (by rw [D.trim_set,show (fun c=>D.okS.contains c) = D.okB from funext fun c=>(D.okB_in c).symm])
  rw [hG]
  clear hG
  have hls:s.toList.length = s.size:=by rw [L_toList]; exact L_size s
  by_cases h0:s.size = 0
  · have he:s.toList = []:=List.eq_nil_of_length_eq_zero (by omega)
    have hs0:s = ⟨#[]⟩:=toList_inj.1 (he.trans (by simp))
    subst hs0
    go_enter Tryz.func27,Tryz.ntmps27
    go_wp2
    go_ret
    exact ⟨ret_bool (by rw [HG.out]; rfl),Below.refl _ _⟩
  · have hn:¬ s.toList = []:=fun e=>h0 (by rw [← hls,e]; rfl)
    have hnb:s.toList.isEmpty = false:=by cases h:s.toList <;> simp_all
    by_cases h64:s.size ≤ 64
    · have h64i:(s.size:Int) ≤ 64:=by omega
      clear hls
      by_cases hall:(L s).all D.okB = true
      · have HT2:Hid (Calls Tryz.prog 54 #[.string s,.string ⟨#[97,98,99,100,101,102,103,104,105,106,107,108,109,110,111,112,113,114,115,116,117,118,119,120,121,122,48,49,50,51,52,53,54,55,56,57,46,45,95,47]⟩] w (RetS w ⟨#[]⟩)):=by
          have:=HT.out
          rw [HA.out.2 hall] at this
          exact Lib.hid this
        clear HT HA
        go_enter Tryz.func27,Tryz.ntmps27
        go_wp2_with fail
        refine HT2.out.mono ?_
        rintro e w1 ⟨rfl,hb1⟩
        go_wp2
        go_ret
        exact ⟨ret_bool (by rw [HG.out,hall,decide_eq_true (show 1 ≤ s.size by omega),decide_eq_true h64]; rfl),hb1⟩
      · have hne:¬ Lib.trimS (L s) D.okS = []:=fun e=>hall (HA.out.1 e)
        obtain ⟨T,hT⟩:∃ T,B (Lib.trimS (L s) D.okS) = T:=⟨_,rfl⟩
        have hTn:¬ T.toList = []:=fun e=>hne (by rw [← hT,L_toList,L_B] at e; exact e)
        have hTb:T.toList.isEmpty = false:=by cases h:T.toList <;> simp_all
        rw [hT] at HT
        clear hT hne HA
        go_enter Tryz.func27,Tryz.ntmps27
        go_wp2_with fail
        refine HT.out.mono ?_
        rintro e w1 ⟨rfl,hb1⟩
        go_wp2
        go_ret
        exact ⟨ret_bool (by rw [HG.out,Bool.not_eq_true _ |>.mp hall]; rfl),hb1⟩
    · have h64i:¬ (s.size:Int) ≤ 64:=by omega
      clear hls HT HA
      go_enter Tryz.func27,Tryz.ntmps27
      go_wp2
      go_ret
      exact ⟨ret_bool (by rw [HG.out,decide_eq_false h64,Bool.and_false]),Below.refl _ _⟩
set_option maxHeartbeats 1000000 in
theorem indexI_any (A:Option Addr) (n c:Nat) (zs:List Int) (x:Int) (w:World) (hn:n ≤ 1099511627776) (hl:zs.length = n) (hx:Rd w A n 1 (icells zs)) :
    Calls Tryz.prog 145 #[.slice A n c,.int .i64 x] w (fun e w'=>∃ z:Int,e = .returned (.int .i64 z) ∧ w' = w ∧ (0 ≤ z ↔ x ∈ zs)):=by
  have HX:=Lib.hid hx
  have HL:=Lib.hid hl
  clear hx hl
  go_enter Tryz.func145,Tryz.ntmps145
  go_wp2
  go_loopw [8] (fun i wr=>∃ k:Nat,k ≤ n ∧ i = .int .i64 k ∧ wr = w ∧ x ∉ zs.take k) (fun i _=>n - (intOf i).toNat)
  case atStart=>exact ⟨0,Nat.zero_le _,rfl,rfl,by simp⟩
  case round =>
    obtain ⟨k,hk,rfl,rfl,hno⟩:=hrel
    have HNO:=Lib.hid hno
    clear hno
    by_cases hlt:k < n
    · obtain ⟨b,o,u,rfl,hb,hu,hc⟩:=HX.out.at1 hlt
      have hkl:k < zs.length:=by rw [HL.out]; exact hlt
      have hu2:u = .int .i64 (zs[k]'hkl):=by
        unfold icells at hu
        rw [List.getElem?_map,List.getElem?_eq_getElem hkl] at hu
        exact (Option.some.inj hu).symm
      subst hu2
      have HTK:=Lib.hid (List.take_succ_eq_append_getElem hkl)
      have HMEM:=Lib.hid (List.getElem_mem hkl)
      generalize zs[k]'hkl = y at *
      clear hu hkl
      by_cases hxy:x = y
      · have hxb:(x == y) = true:=beq_iff_eq.2 hxy
        go_wp2
        go_ret
        exact ⟨k,rfl,rfl,fun _=>by rw [hxy]; exact HMEM.out,fun _=>by omega⟩
      · have hxb:(x == y) = false:=beq_eq_false_iff_ne.2 hxy
        go_wp2
        go_roundw
        case rel=>exact ⟨k + 1,by omega,by go_num,trivial,by rw [HTK.out,List.mem_append]; rintro (h | h); exact HNO.out h; exact hxy (List.mem_singleton.1 h)⟩
        case measure=>simp [intOf]; omega
    · have hkn:k = n:=by omega
      have hall:x ∉ zs:=by
        have:=HNO.out
        rwa [List.take_of_length_le (by have:=HL.out; omega)] at this
      have HALL:=Lib.hid hall
      clear hkn hall HNO
      go_wp2
      go_ret
      exact ⟨-1,rfl,rfl,fun h=>absurd h (by decide),fun h=>absurd h HALL.out⟩
theorem containsI_any (A:Option Addr) (n c:Nat) (zs:List Int) (x:Int) (w:World) (hn:n ≤ 1099511627776) (hl:zs.length = n) (hx:Rd w A n 1 (icells zs)) :
    Calls Tryz.prog 116 #[.slice A n c,.int .i64 x] w (RetP w (.bool (decide (x ∈ zs)))):=by
  have HI:=Lib.hid (indexI_any A n c zs x w hn hl hx)
  clear hx hl
  go_enter Tryz.func116,Tryz.ntmps116
  go_wp2_with fail
  refine HI.out.mono ?_
  rintro e w1 ⟨z,rfl,rfl,hz⟩
  by_cases h0:0 ≤ z
  · have h0i:z ≥ 0:=h0
    have hm:=hz.1 h0
    go_wp2
    go_ret
    exact ⟨ret_bool (decide_eq_true hm).symm,rfl⟩
  · have h0i:¬ z ≥ 0:=h0
    have hm:x ∉ zs:=fun h=>h0 (hz.2 h)
    go_wp2
    go_ret
    exact ⟨ret_bool (decide_eq_false hm).symm,rfl⟩
end Go.Proofs.YtkempjcphpnocaaGreatDoor
