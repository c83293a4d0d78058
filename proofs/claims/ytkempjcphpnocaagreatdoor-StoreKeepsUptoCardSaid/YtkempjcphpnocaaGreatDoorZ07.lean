/- The walk of the disk's begin: a step is counted, and its names are looked at (printed by gen/disk1.py). Conditions: names of at most 2^40 bytes, at most 2^40 steps. The walk of the disk's on (a step about a file that is there), over the look-up of a name. Conditions: names of at most 2^40 bytes, at most 2^40 steps. The walks of the store's hexPair and Path. Condition: a number below 4096. -/
import Derived.Test.YtkempjcphpnocaaGreatDoorZ09
import Derived.Test.YtkempjcphpnocaaGreatDoorZ23
import Derived.Maps.OwnOps
import Derived.Test.YtkempjcphpnocaaGreatDoorStoreR
import Derived.Test.YtkempjcphpnocaaGreatDoorLib
import Derived.Laws.BitsAllLaws
import Derived.Laws.BitsLemmas
import Derived.Laws.IdiomStrings
namespace Go.Proofs.YtkempjcphpnocaaGreatDoor
open Go Go.RowKit Go.Maps
theorem Rd.farD {w:World} {A:Option Addr} {n size b:Nat} {xs:List Value} (h:Rd w A n size xs) (ha:0 < n → ∀ a,A = some a → a.block ≠ b) (i:Nat) (x:Value):Rd (w.setCell ⟨b,i,none⟩ x) A n size xs :=
  ⟨h.1,fun hn=>by
    obtain ⟨b',o,e,hlt,hc⟩:=h.2 hn
    have hne:b' ≠ b:=ha hn _ e
    exact ⟨b',o,e,by simpa [World.setCell] using hlt,fun j u hu=>(World.cell?_setCell_far _ _ _ _ (fun e=>hne e.symm)).trans (hc j u hu)⟩⟩
def NSml (l:List ByteArray):Prop:=∀ s ∈ l,s.size ≤ 1099511627776
set_option maxHeartbeats 1000000 in
theorem badName_any (s:ByteArray) (w:World) (hs:s.size ≤ 1099511627776):Calls Tryz.prog 118 #[.string s] w (RetB w (!D.good s)):=by
  have HG:=Lib.hid (goodName_any s w hs)
  go_enter Tryz.func118,Tryz.ntmps118
  go_wp2_with fail
  refine HG.out.mono ?_
  rintro e w1 ⟨rfl,hb1⟩
  go_wp2
  go_ret
  exact ⟨rfl,hb1⟩
set_option maxHeartbeats 1000000 in
theorem indexBad_any (A:Option Addr) (n c:Nat) (ns:List ByteArray) (w:World) (hn:n ≤ 1099511627776) (hl:ns.length = n) (hs:NSml ns) (hx:Rd w A n 1 (scells ns)) :
    Calls Tryz.prog 146 #[.slice A n c,.func (.func 118) #[] #[]] w (fun e w'=>∃ z:Int,e = .returned (.int .i64 z) ∧ Below w.heap.size w w' ∧ (0 ≤ z ↔ ns.all D.good = false)):=by
  have HX:=Lib.hid hx
  have HL:=Lib.hid hl
  have HS:=Lib.hid hs
  clear hx hl hs
  go_enter Tryz.func146,Tryz.ntmps146
  go_wp2
  go_loopw [8] (fun i wr=>∃ k:Nat,k ≤ n ∧ i = .int .i64 k ∧ Below w.heap.size w wr ∧ (ns.take k).all D.good = true) (fun i _=>n - (intOf i).toNat)
  case atStart=>exact ⟨0,Nat.zero_le _,rfl,Below.refl _ _,by simp⟩
  case round =>
    obtain ⟨k,hk,rfl,hbel,hno⟩:=hrel
    have HNO:=Lib.hid hno
    have HBE:=Lib.hid hbel
    clear hno hbel
    by_cases hlt:k < n
    · have hkl:k < ns.length:=by rw [HL.out]; exact hlt
      obtain ⟨b,o,rfl,hb,hc⟩:=(HX.out.below HBE.out).str hlt HL.out
      have HTK:=Lib.hid (List.take_succ_eq_append_getElem hkl)
      have HMEM:=Lib.hid (List.getElem_mem hkl)
      have hsz:=HS.out _ (List.getElem_mem hkl)
      generalize ns[k]'hkl = y at *
      have HC:=Lib.hid (badName_any y wr hsz)
      clear hkl hsz
      cases hg:D.good y
      · rw [hg] at HC
        have HG:=Lib.hid hg
        clear hg
        go_wp2_with fail
        refine HC.out.mono ?_
        rintro e w1 ⟨rfl,hb1⟩
        go_wp2
        go_ret
        refine ⟨k,rfl,below_then HBE.out.size HBE.out hb1,fun _=>?_,fun _=>by omega⟩
        rw [Bool.eq_false_iff]
        intro h
        rw [List.all_eq_true.1 h y HMEM.out] at HG
        cases HG.out
      · rw [hg] at HC
        have HG:=Lib.hid hg
        clear hg
        go_wp2_with fail
        refine HC.out.mono ?_
        rintro e w1 ⟨rfl,hb1⟩
        go_wp2
        go_roundw
        case rel=>exact ⟨k + 1,by omega,by go_num,below_then HBE.out.size HBE.out hb1,by rw [HTK.out,List.all_append,HNO.out]; simp [HG.out]⟩
        case measure=>simp [intOf]; omega
    · have hall:ns.all D.good = true:=by
        have:=HNO.out
        rwa [List.take_of_length_le (by have:=HL.out; omega)] at this
      have HALL:=Lib.hid hall
      clear hall HNO
      go_wp2
      go_ret
      exact ⟨-1,rfl,HBE.out,fun h=>absurd h (by decide),fun h=>by rw [HALL.out] at h; cases h⟩
theorem containsBad_any (A:Option Addr) (n c:Nat) (ns:List ByteArray) (w:World) (hn:n ≤ 1099511627776) (hl:ns.length = n) (hs:NSml ns) (hx:Rd w A n 1 (scells ns)) :
    Calls Tryz.prog 117 #[.slice A n c,.func (.func 118) #[] #[]] w (RetB w (!ns.all D.good)):=by
  have HI:=Lib.hid (indexBad_any A n c ns w hn hl hs hx)
  clear hx hl hs
  go_enter Tryz.func117,Tryz.ntmps117
  go_wp2_with fail
  refine HI.out.mono ?_
  rintro e w1 ⟨z,rfl,hb,hz⟩
  by_cases h0:0 ≤ z
  · have h0i:z ≥ 0:=h0
    have hm:=hz.1 h0
    go_wp2
    go_ret
    exact ⟨ret_bool (by rw [hm]; rfl),hb⟩
  · have h0i:¬ z ≥ 0:=h0
    have hm:ns.all D.good = true:=by
      cases h:ns.all D.good
      · exact absurd (hz.2 h) h0
      · rfl
    go_wp2
    go_ret
    exact ⟨ret_bool (by rw [hm]; rfl),hb⟩
def RetStep (B:Nat) (M:DM) (s:D.Dsk) (w:World) (x:D.Dsk × Int) (e:Ending) (w':World):Prop:=e = .returned (.int .i64 x.2) ∧ ∃ M',DkAt B M' x.1 w' ∧ Stepped M s w M' x.1 w'
set_option maxHeartbeats 2000000 in
theorem begin_any (B:Nat) (M:DM) (s:D.Dsk) (A:Option Addr) (n c:Nat) (ns:List ByteArray) (w:World) (h:DkAt B M s w) (hsn:0 ≤ s.n ∧ s.n ≤ 1099511627776) (hfl:s.fails.length ≤ 1099511627776) (hn:n ≤ 1099511627776) (hl:ns.length = n) (hs:NSml ns) (hx:Rd w A n 1 (scells ns)) (hA:0 < n → ∀ a,A = some a → a.block ≠ M.d) :
    Calls Tryz.prog 95 #[.pointer (some ⟨M.d,0,none⟩),.slice A n c] w (fun e w'=>e = .returned (.int .i64 (s.begin ns).2) ∧ DkAt B M (s.begin ns).1 w' ∧ Stepped M s w M (s.begin ns).1 w'):=by
  have HD:=Lib.hid h
  have HX:=Lib.hid hx
  have HDW:=Lib.hid (down_any B M s w h)
  have HCB:=Lib.hid (fun (u:World) (hr:Rd u A n 1 (scells ns))=>containsBad_any A n c ns u hn hl hs hr)
  clear h hx hl hs
  obtain ⟨G,hG⟩:∃ G,s.begin ns = G:=⟨_,rfl⟩
  have HG:Hid (G = if s.down then (s,93) else ({ s with n:=s.n + 1 },if decide (s.n + 1 ∈ s.fails) then 94 else if ns.all D.good then 0 else 95)):=Lib.hid (by rw [← hG]; rfl)
  rw [hG]
  clear hG
  go_enter Tryz.func95,Tryz.ntmps95
  go_wp2_with fail
  refine HDW.out.mono ?_
  rintro e w1 ⟨rfl,hb1⟩
  have HD1:=Lib.hid (HD.out.below hb1)
  have HX1:=Lib.hid (HX.out.below hb1)
  have HS1:Hid (Stepped M s w M s w1):=Lib.hid (Stepped.below hb1)
  clear hb1 HD HX HDW
  cases hdn:s.down
  rotate_left
  · rw [hdn,if_pos rfl] at HG
    go_wp2
    go_ret
    exact ⟨by rw [HG.out]; rfl,by rw [HG.out]; exact HD1.out,by rw [HG.out]; exact HS1.out⟩
  rw [hdn,if_neg (by decide)] at HG
  obtain ⟨y0,y1,y2,y3,y4,y5,y6,y7⟩:=HD1.out.cells
  have f7:=HD1.out.blk.free 7
  have HD2:=Lib.hid (HD1.out.count (s.n + 1))
  have HS2:Hid (Stepped M s w M { s with n:=s.n + 1 } (w1.setCell ⟨M.d,7,none⟩ (.int .i64 (s.n + 1)))):=Lib.hid (HS1.out.trans (Stepped.set rfl))
  have hX1a:=HX1.out
  have HX2:Hid (Rd (w1.setCell ⟨M.d,7,none⟩ (.int .i64 (s.n + 1))) A n 1 (scells ns)):=Lib.hid (hX1a.farD hA 7 _)
  clear HD1 HS1 HX1 hX1a hA
  go_upto_region 4 with fail
  clear y0 y1 y2 y3 y4 y5 y6 y7 f7
  generalize w1.setCell ⟨M.d,7,none⟩ (.int .i64 (s.n + 1)) = w2 at *
  have hS0:DkAt B M { s with n:=s.n + 1 } w2.drew:=HD2.out.below (Below.refl _ _).drew
  refine wp_region_noPanic ?_
  refine HT.begin (n:=8) (S:=(fun u=>DkAt B M { s with n:=s.n + 1 } u)) (by kernel_rfl) hS0 ?_
  have HS3:=Lib.hid (HS2.out.trans (Stepped.below (Below.refl _ _).drew):Stepped M s w M { s with n:=s.n + 1 } w2.drew)
  have HX3:=Lib.hid (HX2.out.drew)
  clear HS2 HX2 HD2
  generalize w2.drew = w3 at *
  refine HT.take 0 (.pointer (some ⟨M.d,0,none⟩)) rfl (by kernel_rfl) (fun _ _ _ h=>h) (Or.inl ⟨by rfl,?_⟩) (?_:HT _ _ _ _ _ _ _ ⟨#[_,_,_,_,_,_,_,_,_,_,_,_,_,_,.pointer (some ⟨M.d,0,none⟩),_,_,_,_,_,_,_,_,_,_],[]⟩ _)
  · intro u hu
    go_simp
  refine HT.take 1 (.pointer (some ⟨M.d,0,none⟩)) rfl (by kernel_rfl) (fun _ _ _ h=>h) (Or.inl ⟨by rfl,?_⟩) (?_:HT _ _ _ _ _ _ _ ⟨#[_,_,_,_,_,_,_,_,_,_,_,_,_,_,.pointer (some ⟨M.d,0,none⟩),.pointer (some ⟨M.d,0,none⟩),_,_,_,_,_,_,_,_,_],[]⟩ _)
  · intro u hu
    go_simp
  refine HT.take 2 (.pointer (some ⟨M.d,5,none⟩)) rfl (by kernel_rfl) (fun _ _ _ h=>h) (Or.inl ⟨by rfl,?_⟩) (?_:HT _ _ _ _ _ _ _ ⟨#[_,_,_,_,_,_,_,_,_,_,_,_,_,_,.pointer (some ⟨M.d,0,none⟩),.pointer (some ⟨M.d,0,none⟩),.pointer (some ⟨M.d,5,none⟩),_,_,_,_,_,_,_,_],[]⟩ _)
  · intro u hu
    go_simp
  refine HT.take 3 (.slice M.FA s.fails.length M.fc) rfl (by kernel_rfl) (fun _ _ _ h=>h) (Or.inl ⟨by rfl,?_⟩) (?_:HT _ _ _ _ _ _ _ ⟨#[_,_,_,_,_,_,_,_,_,_,_,_,_,_,.pointer (some ⟨M.d,0,none⟩),.pointer (some ⟨M.d,0,none⟩),.pointer (some ⟨M.d,5,none⟩),.slice M.FA s.fails.length M.fc,_,_,_,_,_,_,_],[]⟩ _)
  · intro u hu
    obtain ⟨y0,y1,y2,y3,y4,y5,y6,y7⟩:=hu.cells
    go_simp
  refine HT.take 4 (.pointer (some ⟨M.d,0,none⟩)) rfl (by kernel_rfl) (fun _ _ _ h=>h) (Or.inl ⟨by rfl,?_⟩) (?_:HT _ _ _ _ _ _ _ ⟨#[_,_,_,_,_,_,_,_,_,_,_,_,_,_,.pointer (some ⟨M.d,0,none⟩),.pointer (some ⟨M.d,0,none⟩),.pointer (some ⟨M.d,5,none⟩),.slice M.FA s.fails.length M.fc,.pointer (some ⟨M.d,0,none⟩),_,_,_,_,_,_],[]⟩ _)
  · intro u hu
    go_simp
  refine HT.take 5 (.pointer (some ⟨M.d,0,none⟩)) rfl (by kernel_rfl) (fun _ _ _ h=>h) (Or.inl ⟨by rfl,?_⟩) (?_:HT _ _ _ _ _ _ _ ⟨#[_,_,_,_,_,_,_,_,_,_,_,_,_,_,.pointer (some ⟨M.d,0,none⟩),.pointer (some ⟨M.d,0,none⟩),.pointer (some ⟨M.d,5,none⟩),.slice M.FA s.fails.length M.fc,.pointer (some ⟨M.d,0,none⟩),.pointer (some ⟨M.d,0,none⟩),_,_,_,_,_],[]⟩ _)
  · intro u hu
    go_simp
  refine HT.take 6 (.pointer (some ⟨M.d,7,none⟩)) rfl (by kernel_rfl) (fun _ _ _ h=>h) (Or.inl ⟨by rfl,?_⟩) (?_:HT _ _ _ _ _ _ _ ⟨#[_,_,_,_,_,_,_,_,_,_,_,_,_,_,.pointer (some ⟨M.d,0,none⟩),.pointer (some ⟨M.d,0,none⟩),.pointer (some ⟨M.d,5,none⟩),.slice M.FA s.fails.length M.fc,.pointer (some ⟨M.d,0,none⟩),.pointer (some ⟨M.d,0,none⟩),.pointer (some ⟨M.d,7,none⟩),_,_,_,_],[]⟩ _)
  · intro u hu
    go_simp
  refine HT.take 7 (.int .i64 (s.n + 1)) rfl (by kernel_rfl) (fun _ _ _ h=>h) (Or.inl ⟨by rfl,?_⟩) (?_:HT _ _ _ _ _ _ _ ⟨#[_,_,_,_,_,_,_,_,_,_,_,_,_,_,.pointer (some ⟨M.d,0,none⟩),.pointer (some ⟨M.d,0,none⟩),.pointer (some ⟨M.d,5,none⟩),.slice M.FA s.fails.length M.fc,.pointer (some ⟨M.d,0,none⟩),.pointer (some ⟨M.d,0,none⟩),.pointer (some ⟨M.d,7,none⟩),.int .i64 (s.n + 1),_,_,_],[]⟩ _)
  · intro u hu
    obtain ⟨y0,y1,y2,y3,y4,y5,y6,y7⟩:=hu.cells
    go_simp
  refine HT.tail _ rfl rfl (by kernel_rfl) (fun hS=>?_)
  have HS:=Lib.hid hS
  clear hS hS0
  go_wp2_with fail
  refine (containsI_any M.FA s.fails.length M.fc s.fails (s.n + 1) w3 hfl rfl HS.out.fails.rd).mono ?_
  rintro e w4 ⟨rfl,rfl⟩
  cases hin:decide (s.n + 1 ∈ s.fails)
  rotate_left
  · rw [hin,if_pos rfl] at HG
    go_wp2
    refine NoPanic.normal ?_
    go_wp2
    go_ret
    exact ⟨by rw [HG.out]; rfl,by rw [HG.out]; exact HS.out,by rw [HG.out]; exact HS3.out⟩
  rw [hin,if_neg (by decide)] at HG
  have HCC:=Lib.hid (HCB.out _ HX3.out)
  go_wp2
  refine NoPanic.normal ?_
  go_wp2_with fail
  refine HCC.out.mono ?_
  rintro e w5 ⟨rfl,hb5⟩
  cases hall:ns.all D.good
  · rw [hall,if_neg (by decide)] at HG
    go_wp2
    go_ret
    exact ⟨by rw [HG.out]; rfl,by rw [HG.out]; exact HS.out.below hb5,by rw [HG.out]; exact HS3.out.trans (Stepped.below hb5)⟩
  · rw [hall,if_pos rfl] at HG
    go_wp2
    go_ret
    exact ⟨by rw [HG.out]; rfl,by rw [HG.out]; exact HS.out.below hb5,by rw [HG.out]; exact HS3.out.trans (Stepped.below hb5)⟩
end Go.Proofs.YtkempjcphpnocaaGreatDoor
namespace Go.Proofs.YtkempjcphpnocaaGreatDoor
open Go Go.RowKit Go.Maps
namespace D
def ptrOf (fa:Nat → Nat):Option Nat → Value
  | some no=>.pointer (some ⟨fa no,0,none⟩)
  | none=>.pointer none
end D
theorem strT_ul:Tryz.prog.underlying 9 = some .string:=by kernel_rfl
theorem nmT_ul:Tryz.prog.underlying 67 = some (.map 9 75):=by kernel_rfl
theorem zeroFile (w:World):(zeroValue 75).run Tryz.prog w = .ok (.pointer none) w:=by kernel_rfl
theorem nmKey (nm:ByteArray) (hs:nm.size ≤ maxLen):keyOf Tryz.prog 9 (.string nm) = some (D.key nm):=WideMaps.keyOf_string_mk strT_ul hs
section
variable {w:World} {b n:Nat} {fa:Nat → Nat} {l:D.NM}
theorem names_look (h:w.ownsMap Tryz.prog 9 D.ptrR b n (D.datum fa l)) (nm:ByteArray) (hs:nm.size ≤ maxLen) :
    (Instr.lookup 67 (.map (some b)) (.string nm) false).run Tryz.prog w = .ok (D.ptrOf fa (D.find l nm)) w:=by
  obtain ⟨v,ps,hr,hv⟩:=h.lookup (string_keyed strT_ul) nmT_ul (zeroFile w) (zd:=.nil) (zp:=[]) rfl (nmKey nm hs)
  rw [hr]
  rw [D.datum_at] at hv
  cases hf:D.find l nm with
  | none=>rw [hf] at hv; rw [D.ptrR_nil hv]; rfl
  | some no=>rw [hf] at hv; rw [D.ptrR_inv hv]; rfl
theorem names_tight (h:w.ownsMap Tryz.prog 9 D.ptrR b n (D.datum fa l)):w.ownsMap Tryz.prog 9 D.ptrR b l.length (D.datum fa l):=by
  obtain ⟨es,cl,hb,F,hs,hD⟩:=h
  refine ⟨es,cl,hb,F,?_,hD⟩
  have h1:=congrArg Maps.size hD
  unfold D.datum at h1
  rw [Maps.size_eq,Maps.size_eq,length_sorted] at h1
  simp at h1
  omega
end
set_option maxHeartbeats 2000000 in
theorem on_any (B:Nat) (M:DM) (s:D.Dsk) (nm:ByteArray) (A:Option Addr) (n c B0:Nat) (more:List ByteArray) (w:World) (hD:∀ u,w.grownBy u (ownB A c) → DkAt B M s u) (hsn:0 ≤ s.n ∧ s.n ≤ 1099511627776) (hfl:s.fails.length ≤ 1099511627776) (hn:n ≤ 1000) (hl:more.length = n) (hs:NSml (more ++ [nm]))
    (hrow:Row w B0 9 1 A n c (scells more)) (hB0:B0 ≤ w.heap.size) :
    Calls Tryz.prog 73 #[.pointer (some ⟨M.d,0,none⟩),.string nm,.slice A n c] w (fun e w'=>e = .returned (.tuple #[D.ptrOf M.fa (s.look nm more).2.2,.int .i64 (s.look nm more).2.1]) ∧ ∃ u,w.grownBy u (ownB A c) ∧ DkAt B M (s.look nm more).1 w' ∧ Stepped M s u M (s.look nm more).1 w'):=by
  have HD:=Lib.hid hD
  have HR:=Lib.hid hrow
  have hnm:nm.size ≤ 1099511627776:=hs nm (by simp)
  have HLN:Hid ((more ++ [nm]).length = n + 1):=Lib.hid (by simp [hl])
  have HBG:=Lib.hid (fun (A':Option Addr) (c':Nat) (u:World) (h:DkAt B M s u) (hx:Rd u A' (n + 1) 1 (scells (more ++ [nm]))) (hA)=>begin_any B M s A' (n + 1) c' (more ++ [nm]) u h hsn hfl (by omega) HLN.out hs hx hA)
  obtain ⟨G,hG⟩:∃ G,s.look nm more = G:=⟨_,rfl⟩
  obtain ⟨S1,hS1⟩:∃ S1,s.begin (more ++ [nm]) = S1:=⟨_,rfl⟩
  have HG:Hid (G = if S1.2 ≠ 0 then (S1.1,S1.2,none) else match D.find S1.1.now nm with | none=>(S1.1,90,none) | some no=>(S1.1,0,some no)):=Lib.hid (by rw [← hG,← hS1]; rfl)
  rw [hG]
  rw [hS1] at HBG
  clear hG hS1 hD hrow hl hs hsn hfl HLN
  go_enter Tryz.func73,Tryz.ntmps73
  go_wp2_with (at_builtin; refine appS _ rfl _ _ rfl B0 A n c more rfl (HR.out.alloc _) _ 1 1 [nm] rfl (newS w nm) (by omega) (by simp; omega) ?_; intro A1 c1 w2 hr2 ha2)
  have HD2:Hid (w.grownBy w2 (ownB A c)):=Lib.hid (by
    have h1:=World.grownBy_alloc w (.cells #[.string nm] 9) (ownB A c)
    exact h1.trans ha2.grown)
  have HDu:=Lib.hid (HD.out w2 HD2.out)
  have hA1:0 < n + 1 → ∀ a,A1 = some a → a.block ≠ M.d:=by
    intro _ a ha
    have hc:=hr2.cap.1
    have ht:=hr2.tag (k:=a.block) (by unfold ownB; rw [if_neg (by omega),ha]; rfl)
    exact ht.ne HDu.out.blk.tag (by decide)
  have HC:=Lib.hid (HBG.out A1 c1 w2 HDu.out hr2.rd hA1)
  clear hA1 hr2 ha2 HR HBG HD
  go_wp2_with fail
  refine HC.out.mono ?_
  rintro e w3 ⟨rfl,hd3,hs3⟩
  have HD3:=Lib.hid hd3
  have HS3:=Lib.hid hs3
  clear hd3 hs3 HC HDu
  obtain ⟨s1,z⟩:=S1
  dsimp only at *
  by_cases hz:z = 0
  · subst hz
    rw [if_neg (by simp)] at HG
    obtain ⟨y0,y1,y2,y3,y4,y5,y6,y7⟩:=HD3.out.cells
    have hlk:=names_look HD3.out.now nm (by simp only [maxLen]; omega)
    clear y1 y2 y3 y4 y5 y6 y7
    cases hf:D.find s1.now nm with
    | none =>
      rw [hf] at hlk HG
      dsimp only [D.ptrOf] at hlk HG
      go_wp2
      go_ret2
      exact ⟨by rw [HG.out]; rfl,w2,HD2.out,by rw [HG.out]; exact HD3.out,by rw [HG.out]; exact HS3.out⟩
    | some no =>
      rw [hf] at hlk HG
      dsimp only [D.ptrOf] at hlk HG
      go_wp2
      go_ret2
      exact ⟨by rw [HG.out]; rfl,w2,HD2.out,by rw [HG.out]; exact HD3.out,by rw [HG.out]; exact HS3.out⟩
  · have hzb:(z == 0) = false:=beq_eq_false_iff_ne.2 hz
    rw [if_pos hz] at HG
    go_wp2
    go_ret2
    exact ⟨by rw [HG.out]; rfl,w2,HD2.out,by rw [HG.out]; exact HD3.out,by rw [HG.out]; exact HS3.out⟩
end Go.Proofs.YtkempjcphpnocaaGreatDoor
namespace Go.Proofs.YtkempjcphpnocaaGreatDoor
open Go.RowKit
theorem i64_and15 (v:Int) (h0:0 ≤ v) (h1:v < 64):bits .and .i64 v 15 = v % 16:=by
  obtain ⟨n,rfl⟩:=Int.eq_ofNat_of_zero_le h0
  have h:∀ m:Fin 64,bits .and .i64 (m.1:Int) 15 = (m.1:Int) % 16:=by decide
  exact h ⟨n,by omega⟩
def hexD (i:Int):UInt8:=(#[48,49,50,51,52,53,54,55,56,57,97,98,99,100,101,102]:Array UInt8).getD i.toNat 0
theorem hexD_at (i:Int) (h:i.toNat < ({ data:=#[48,49,50,51,52,53,54,55,56,57,97,98,99,100,101,102] }:ByteArray).size):({ data:=#[48,49,50,51,52,53,54,55,56,57,97,98,99,100,101,102] }:ByteArray)[i.toNat]'h = hexD i:=by
  have e:({ data:=#[48,49,50,51,52,53,54,55,56,57,97,98,99,100,101,102] }:ByteArray).data[i.toNat]? = some (({ data:=#[48,49,50,51,52,53,54,55,56,57,97,98,99,100,101,102] }:ByteArray)[i.toNat]'h):=Array.getElem?_eq_getElem h
  unfold hexD
  rw [Array.getD_eq_getD_getElem?,e]
  rfl
theorem hexD_hx (n:Nat) (h:n < 16):hexD n = S.hx n:=by
  have:∀ m:Fin 16,hexD (m.1:Int) = S.hx m.1:=by decide
  exact this ⟨n,h⟩
def hexT (v:Int):ByteArray:=⟨#[hexD (v / 16),hexD (v % 16)]⟩
theorem conv2_any (w:World) (x y:UInt8):(convert 26 9 (.slice (some ⟨w.heap.size,0,none⟩) 2 2)).run Tryz.prog ((w.alloc (.cells #[.int .u8 x.toNat,.int .u8 y.toNat] 5)).drew) =
    .ok (.string ⟨#[x,y]⟩) ((w.alloc (.cells #[.int .u8 x.toNat,.int .u8 y.toNat] 5)).drew):=by
  refine run_convert_bytes_back _ 26 9 5 ⟨w.heap.size,0,none⟩ 2 [x,y] Tryz.underlying26 Tryz.underlying5 Tryz.underlying9 ?_
  intro j hj
  match j,hj with
  | 0,_=>simp [Addr.add]
  | 1,_=>simp [Addr.add]
set_option maxHeartbeats 400000 in
theorem hexPair_any (v:Int) (w:World) (h0:0 ≤ v) (h1:v < 64):Calls Tryz.prog 53 #[.int .i64 v] w (RetS w (hexT v)):=by
  have ha:=i64_and15 v h0 h1
  have h2:0 ≤ v / 16:=by omega
  have h3:v / 16 < 16:=by omega
  have h4:0 ≤ v % 16:=by omega
  have h5:v % 16 < 16:=by omega
  have hcv:=conv2_any w
  have e1:(({ data:=#[48,49,50,51,52,53,54,55,56,57,97,98,99,100,101,102] }:ByteArray)[(v / 16).toNat]'(by show (v / 16).toNat < 16; omega)) = hexD (v / 16):=hexD_at _ _
  have e2:(({ data:=#[48,49,50,51,52,53,54,55,56,57,97,98,99,100,101,102] }:ByteArray)[(v % 16).toNat]'(by show (v % 16).toNat < 16; omega)) = hexD (v % 16):=hexD_at _ _
  go_enter Tryz.func53,Tryz.ntmps53
  go_wp2
  go_region
  go_wp2
  go_ret
  exact ⟨rfl,(((Below.refl _ _).alloc (Nat.le_refl _) _).drew)⟩
set_option maxHeartbeats 400000 in
theorem path_any (no:Nat) (w:World) (h:no < 4096):Calls Tryz.prog 25 #[.int .i64 no] w (RetS w (S.path no)):=by
  obtain ⟨v,hv⟩:∃ v:Int,v = no:=⟨_,rfl⟩
  have h0:0 ≤ v:=by omega
  have h1:v < 4096:=by omega
  have h0i:¬ v < 0:=by omega
  have h1i:¬ v ≥ 4096:=by omega
  have h2:0 ≤ v / 64:=by omega
  have h3:v / 64 < 64:=by omega
  have h4:0 ≤ v % 64:=by omega
  have h5:v % 64 < 64:=by omega
  have z1:(hexT (v / 64)).size ≤ 2:=Nat.le_refl 2
  have z2:(hexT (v % 64)).size ≤ 2:=Nat.le_refl 2
  have HP1:=Lib.hid (fun u:World=>hexPair_any (v / 64) u (by omega) (by omega))
  have HP2:=Lib.hid (fun u:World=>hexPair_any (v % 64) u (by omega) (by omega))
  have HV:Hid (S.path no = ⟨#[111,47]⟩ ++ hexT (v / 64) ++ ⟨#[47]⟩ ++ hexT (v % 64)):=Lib.hid (by
    rw [S.path_at h]
    have a1:hexD (v / 64 / 16) = S.hx (no / 1024):=by rw [show v / 64 / 16 = ((no / 1024:Nat):Int) by omega]; exact hexD_hx _ (by omega)
    have a2:hexD (v / 64 % 16) = S.hx (no / 64 % 16):=by rw [show v / 64 % 16 = ((no / 64 % 16:Nat):Int) by omega]; exact hexD_hx _ (by omega)
    have a3:hexD (v % 64 / 16) = S.hx (no % 64 / 16):=by rw [show v % 64 / 16 = ((no % 64 / 16:Nat):Int) by omega]; exact hexD_hx _ (by omega)
    have a4:hexD (v % 64 % 16) = S.hx (no % 16):=by rw [show v % 64 % 16 = ((no % 16:Nat):Int) by omega]; exact hexD_hx _ (by omega)
    unfold hexT
    rw [a1,a2,a3,a4]
    rfl)
  rw [← hv,HV.out]
  generalize hexT (v / 64) = t1 at *
  generalize hexT (v % 64) = t2 at *
  clear hv HV h
  go_enter Tryz.func25,Tryz.ntmps25
  go_wp2_with fail
  refine (HP1.out _).mono ?_
  rintro e w1 ⟨rfl,hb1⟩
  go_wp2_with fail
  refine (HP2.out _).mono ?_
  rintro e w2 ⟨rfl,hb2⟩
  go_wp2
  go_ret
  exact ⟨rfl,below_then hb1.size hb1 hb2⟩
end Go.Proofs.YtkempjcphpnocaaGreatDoor
