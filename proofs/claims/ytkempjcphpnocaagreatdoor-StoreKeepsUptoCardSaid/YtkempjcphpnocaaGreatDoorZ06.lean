/- What an append to a file leaves of the disk's form in memory. No condition: plain lemmas. maps.Keys, slices.Sorted and maps.Clone at this program's types: laid, and what they answer (printed by gen/mapk.py). Conditions: at most 2^30 names. The log and the store in memory: which blocks they have, what they hold, what a step leaves. No condition: plain lemmas. -/
import Derived.Test.YtkempjcphpnocaaGreatDoorZ08
import Derived.Test.YtkempjcphpnocaaGreatDoorShelf
import Derived.Test.YtkempjcphpnocaaGreatDoorZ09
import Derived.Shelf.SlMaps.Clone
import Derived.Shelf.SlIter.Sorted
import Derived.Test.YtkempjcphpnocaaGreatDoorZ11
namespace Go.Proofs.YtkempjcphpnocaaGreatDoor
open Go Go.RowKit Go.Maps
def DM.grew (M:DM) (no:Nat) (A:Option Addr) (c:Nat):DM:={ M with da:=fun i=>if i = no then A else M.da i,dc:=fun i=>if i = no then c else M.dc i }
def D.Dsk.wrote (s:D.Dsk) (no:Nat) (d:List UInt8):D.Dsk:={ s with data:=s.data.set no (s.data.getD no [] ++ d) }
theorem D.Dsk.wrote_size (s:D.Dsk) {no:Nat} (hn:no < s.data.length) (d:List UInt8):(s.wrote no d).size no = s.size no + d.length:=by
  unfold D.Dsk.wrote D.Dsk.size
  simp [List.getD,hn]
theorem D.Dsk.wrote_same (s:D.Dsk) (no:Nat) (d:List UInt8) {i:Nat} (hi:i ≠ no):(s.wrote no d).data.getD i [] = s.data.getD i []:=by
  unfold D.Dsk.wrote
  simp [List.getD,List.getElem?_set_ne (fun h=>hi h.symm)]
section
variable {B:Nat} {M:DM} {s:D.Dsk} {w w1 w':World} {A A':Option Addr} {c' n:Nat} {d:List UInt8} {no:Nat}
theorem Stepped.rd {M':DM} {s':D.Dsk} {size:Nat} {xs:List Value} (h:Stepped M s w M' s' w') (hx:Rd w A n size xs) (hA:0 < n → ∀ a,A = some a → ¬ M.foot s a.block):Rd w' A n size xs :=
  ⟨hx.1,fun hn=>by
    obtain ⟨b,o,rfl,hlt,hc⟩:=hx.2 hn
    have hbl:w'.heap[b]? = w.heap[b]?:=h.block b hlt (hA hn _ rfl)
    exact ⟨b,o,rfl,Nat.lt_of_lt_of_le hlt h.size,fun j u hu=>(World.cell?_of_block (w:=w) (a:=⟨b,o + j,none⟩) hbl).trans (hc j u hu)⟩⟩
theorem DkAt.wrote (h:DkAt B M s w) (hn:no < s.data.length) (ha:App w w1 (M.da no) (M.dc no) A' c') (hrow:Row w1 B 5 1 A' (s.size no + d.length) c' (bcells (s.data.getD no [] ++ d))) :
    DkAt B (M.grew no A' c') (s.wrote no d) (w1.setCell ⟨M.fa no,1,none⟩ (.slice A' (s.size no + d.length) c')):=by
  obtain ⟨g1,g2,g3⟩:=h.files no hn
  have hg:=ha.grown
  have hT:∀ k,ownB (M.da no) (M.dc no) = some k → Tag w k 5:=fun k hk=>g2.tag hk
  have hb:∀ {k t},Tag w k t → t ≠ 5 → ownB (M.da no) (M.dc no) ≠ some k:=fun ht hn e=>ht.ne (hT _ e) hn rfl
  have hF1:=g1.keptG hg (hb g1.tag (by decide))
  have hg2:=grown_set w1 (M.fa no) 1 (.slice A' (s.size no + d.length) c')
  have hT2:=hF1.tag
  have hb2:∀ {k t},Tag w1 k t → t ≠ 78 → some (M.fa no) ≠ some k:=fun ht hn e=>ht.ne hT2 hn (by simpa using e.symm)
  have hmap:∀ {K:TypeId} {R:Value → Option (DataW Unit × List MemPlace)} {b n:Nat} {D:DataW Unit},w.ownsMap Tryz.prog K R b n D → (w1.setCell ⟨M.fa no,1,none⟩ (.slice A' (s.size no + d.length) c')).ownsMap Tryz.prog K R b n D:=fun hm=>by
    have h1:=hm.kept hg (fun e=>(hT _ e.symm).map (ownsMap_tag hm) rfl)
    exact h1.kept hg2 (fun e=>hT2.map (ownsMap_tag h1) (by simpa using e.symm))
  have hblk:∀ {k:Nat} {cs:Array Value} {t:TypeId},Blk w k cs t → t ≠ 5 → t ≠ 78 → Blk (w1.setCell ⟨M.fa no,1,none⟩ (.slice A' (s.size no + d.length) c')) k cs t:=fun hk h1 h2=>by
    have q:=hk.keptG hg (hb hk.tag h1)
    exact q.keptG hg2 (hb2 q.tag h2)
  have hrw:∀ {e:TypeId} {A:Option Addr} {n c:Nat} {xs:List Value},Row w B e 1 A n c xs → e ≠ 5 → e ≠ 78 → Row (w1.setCell ⟨M.fa no,1,none⟩ (.slice A' (s.size no + d.length) c')) B e 1 A n c xs:=fun hk h1 h2=>by
    have q:=hk.keptG hg (fun k hk2=>hb (hk.tag hk2) h1)
    exact q.keptG hg2 (fun k hk2=>hb2 (q.tag hk2) h2)
  have hlen:(s.wrote no d).data.length = s.data.length:=by unfold D.Dsk.wrote; simp
  refine ⟨?_,hmap h.now,hmap h.safe,h.ne,hrw h.pend (by decide) (by decide),h.chg.imp (fun c v hc=>(hc.keptT hg hT (by decide)).keptT hg2 (fun k e=>by cases e; exact hT2) (by decide)),hrw h.fails (by decide) (by decide),fun i hi=>?_,fun i j hi hj hij=>?_,h.ge⟩
  · show Blk _ _ #[_,_,_,.int .i64 ((s.wrote no d).data.length:Nat),_,_,_,_] _
    rw [hlen]
    exact hblk h.blk (by decide) (by decide)
  · rw [hlen] at hi
    obtain ⟨f1,f2,f3⟩:=h.files i hi
    by_cases e:i = no
    · subst e
      have q1:(M.grew i A' c').da i = A':=if_pos rfl
      have q2:(M.grew i A' c').dc i = c':=if_pos rfl
      have q3:(s.wrote i d).data.getD i [] = s.data.getD i [] ++ d:=by unfold D.Dsk.wrote; simp [List.getD,hn]
      refine ⟨?_,?_,f3⟩
      · rw [q1,q2,s.wrote_size hn d]
        exact hF1.set 1 _
      · rw [q1,q2,q3,s.wrote_size hn d]
        exact hrow.keptG hg2 (fun k hk=>hb2 (hrow.tag hk) (by decide))
    · have q1:(M.grew no A' c').da i = M.da i:=if_neg e
      have q2:(M.grew no A' c').dc i = M.dc i:=if_neg e
      have q3:=s.wrote_same no d e
      have q4:(s.wrote no d).size i = s.size i:=by unfold D.Dsk.size; rw [q3]
      refine ⟨?_,?_,f3⟩
      · rw [q1,q2,q4]
        have x:=f1.keptG hg (hb f1.tag (by decide))
        exact x.keptG hg2 (fun e3=>(h.apart no i hn hi (fun h=>e h.symm)).1 (by simpa using e3))
      · rw [q1,q2,q3,q4]
        have x:=f2.keptG hg (fun k hk e3=>(h.apart no i hn hi (fun h=>e h.symm)).2 k e3 hk)
        exact x.keptG hg2 (fun k hk=>hb2 (x.tag hk) (by decide))
  · rw [hlen] at hi hj
    refine ⟨(h.apart i j hi hj hij).1,?_⟩
    have hnew:∀ i,i < s.data.length → i ≠ no → ∀ k,ownB A' c' = some k → ownB (M.da i) (M.dc i) ≠ some k:=fun i hi e k hk hk2=>by
      rcases ha.moved with ⟨rfl,rfl⟩ | ⟨g,rfl,hg⟩
      · exact (h.apart no i hn hi (fun h=>e h.symm)).2 k hk hk2
      · have:=((h.files i hi).row.lt k hk2).2
        unfold ownB at hk
        split at hk
        · cases hk
        · obtain rfl:g = k:=by simpa using hk
          omega
    by_cases e1:i = no
    · subst e1
      have e2:j ≠ i:=fun h=>hij h.symm
      show ∀ k,ownB (if i = i then A' else M.da i) (if i = i then c' else M.dc i) = some k → ownB (if j = i then A' else M.da j) (if j = i then c' else M.dc j) ≠ some k
      rw [if_pos rfl,if_pos rfl,if_neg e2,if_neg e2]
      exact hnew j hj e2
    · by_cases e2:j = no
      · subst e2
        show ∀ k,ownB (if i = j then A' else M.da i) (if i = j then c' else M.dc i) = some k → ownB (if j = j then A' else M.da j) (if j = j then c' else M.dc j) ≠ some k
        rw [if_neg e1,if_neg e1,if_pos rfl,if_pos rfl]
        exact fun k hk hk2=>hnew i hi e1 k hk2 hk
      · show ∀ k,ownB (if i = no then A' else M.da i) (if i = no then c' else M.dc i) = some k → ownB (if j = no then A' else M.da j) (if j = no then c' else M.dc j) ≠ some k
        rw [if_neg e1,if_neg e1,if_neg e2,if_neg e2]
        exact (h.apart i j hi hj hij).2
theorem Stepped.wrote (hn:no < s.data.length) (ha:App w w1 (M.da no) (M.dc no) A' c'):Stepped M s w (M.grew no A' c') (s.wrote no d) (w1.setCell ⟨M.fa no,1,none⟩ (.slice A' (s.size no + d.length) c')):=by
  have hlen:(s.wrote no d).data.length = s.data.length:=by unfold D.Dsk.wrote; simp
  have h1:Stepped M s w (M.grew no A' c') (s.wrote no d) w1:=by
    refine Stepped.grown ha.grown (fun k hk=>.inr (.inr (.inr (.inr ⟨no,hn,.inr hk⟩)))) (fun k hf=>?_) rfl
    rcases hf with hf | hf | hf | hf | ⟨i,hi,hf⟩
    · exact .inl (.inl hf)
    · exact .inl (.inr (.inl hf))
    · exact .inl (.inr (.inr (.inl hf)))
    · exact .inl (.inr (.inr (.inr (.inl hf))))
    · rw [hlen] at hi
      rcases hf with hf | hf
      · exact .inl (.inr (.inr (.inr (.inr ⟨i,hi,.inl hf⟩))))
      · by_cases e:i = no
        · subst e
          change ownB (if i = i then A' else M.da i) (if i = i then c' else M.dc i) = some k at hf
          rw [if_pos rfl,if_pos rfl] at hf
          rcases ha.moved with ⟨rfl,rfl⟩ | ⟨g,rfl,hg⟩
          · exact .inl (.inr (.inr (.inr (.inr ⟨i,hi,.inr hf⟩))))
          · refine .inr ?_
            unfold ownB at hf
            split at hf
            · cases hf
            · obtain rfl:g = k:=by simpa using hf
              exact hg
        · change ownB (if i = no then A' else M.da i) (if i = no then c' else M.dc i) = some k at hf
          rw [if_neg e,if_neg e] at hf
          exact .inl (.inr (.inr (.inr (.inr ⟨i,hi,.inr hf⟩))))
  exact h1.trans (Stepped.file (M:=M.grew no A' c') (by rw [hlen]; exact hn) rfl)
end
end Go.Proofs.YtkempjcphpnocaaGreatDoor
namespace Go.Proofs.YtkempjcphpnocaaGreatDoor
open Go Go.RowKit Go.Maps Go.Sort Go.Shelf
def Tryz.renKD:Go.Shelf.Ren:=⟨fun | 7=>50 | 10=>85 | n=>n,fun | 0=>0 | 3=>75 | 4=>4 | 23=>67 | 26=>9 | 27=>107 | 28=>108 | 33=>74 | n=>n,fun n=>n⟩
theorem Tryz.keysD:SlLaysZ.n7 Tryz.prog Tryz.renKD:={
  mixed:=by kernel_rfl,
  f7:=⟨Tryz.f50.name,by decide,Tryz.func50.trans (congrArg some (by kernel_rfl))⟩,
  f10:=⟨Tryz.f85.name,by decide,Tryz.func85.trans (congrArg some (by kernel_rfl))⟩,
  t0:=Tryz.underlying0,a0:=Tryz.isAgg0,z0:=Tryz.sizeOf0,v0:=Tryz.zeroValue0,
  t4:=Tryz.underlying4,a4:=Tryz.isAgg4,z4:=Tryz.sizeOf4,v4:=Tryz.zeroValue4,
  t23:=Tryz.underlying67,a23:=Tryz.isAgg67,z23:=Tryz.sizeOf67,v23:=Tryz.zeroValue67,
  t26:=Tryz.underlying9,a26:=Tryz.isAgg9,z26:=Tryz.sizeOf9,v26:=Tryz.zeroValue9,
  t27:=Tryz.underlying107,a27:=Tryz.isAgg107,z27:=Tryz.sizeOf107,v27:=Tryz.zeroValue107,
  t28:=Tryz.underlying108,a28:=Tryz.isAgg108,z28:=Tryz.sizeOf108,v28:=Tryz.zeroValue108,
  t33:=Tryz.underlying74,a33:=Tryz.isAgg74,z33:=Tryz.sizeOf74,v33:=Tryz.zeroValue74
}
def Tryz.renKT:Go.Shelf.Ren:=⟨fun | 7=>47 | 10=>83 | n=>n,fun | 0=>0 | 3=>3 | 4=>4 | 23=>84 | 26=>9 | 27=>107 | 28=>108 | 33=>74 | n=>n,fun n=>n⟩
theorem Tryz.keysT:SlLaysZ.n7 Tryz.prog Tryz.renKT:={
  mixed:=by kernel_rfl,
  f7:=⟨Tryz.f47.name,by decide,Tryz.func47.trans (congrArg some (by kernel_rfl))⟩,
  f10:=⟨Tryz.f83.name,by decide,Tryz.func83.trans (congrArg some (by kernel_rfl))⟩,
  t0:=Tryz.underlying0,a0:=Tryz.isAgg0,z0:=Tryz.sizeOf0,v0:=Tryz.zeroValue0,
  t4:=Tryz.underlying4,a4:=Tryz.isAgg4,z4:=Tryz.sizeOf4,v4:=Tryz.zeroValue4,
  t23:=Tryz.underlying84,a23:=Tryz.isAgg84,z23:=Tryz.sizeOf84,v23:=Tryz.zeroValue84,
  t26:=Tryz.underlying9,a26:=Tryz.isAgg9,z26:=Tryz.sizeOf9,v26:=Tryz.zeroValue9,
  t27:=Tryz.underlying107,a27:=Tryz.isAgg107,z27:=Tryz.sizeOf107,v27:=Tryz.zeroValue107,
  t28:=Tryz.underlying108,a28:=Tryz.isAgg108,z28:=Tryz.sizeOf108,v28:=Tryz.zeroValue108,
  t33:=Tryz.underlying74,a33:=Tryz.isAgg74,z33:=Tryz.sizeOf74,v33:=Tryz.zeroValue74
}
def Tryz.renS:Go.Shelf.Ren:=⟨fun | 6=>46 | 8=>81 | 9=>82 | 11=>104 | n=>n,fun | 0=>0 | 24=>42 | 26=>9 | 28=>108 | 33=>74 | n=>n,fun n=>n⟩
theorem Tryz.sortedL:SlLaysZ.n6 Tryz.prog Tryz.renS:={
  mixed:=by kernel_rfl,
  f6:=⟨Tryz.f46.name,by decide,Tryz.func46.trans (congrArg some (by kernel_rfl))⟩,
  f8:=⟨Tryz.f81.name,by decide,Tryz.func81.trans (congrArg some (by kernel_rfl))⟩,
  f11:=⟨Tryz.f104.name,by decide,Tryz.func104.trans (congrArg some (by kernel_rfl))⟩,
  t0:=Tryz.underlying0,a0:=Tryz.isAgg0,z0:=Tryz.sizeOf0,v0:=Tryz.zeroValue0,
  t24:=Tryz.underlying42,a24:=Tryz.isAgg42,z24:=Tryz.sizeOf42,v24:=Tryz.zeroValue42,
  t26:=Tryz.underlying9,a26:=Tryz.isAgg9,z26:=Tryz.sizeOf9,v26:=Tryz.zeroValue9,
  t28:=Tryz.underlying108,a28:=Tryz.isAgg108,z28:=Tryz.sizeOf108,v28:=Tryz.zeroValue108,
  i26:=Tryz.infoS
}
def Tryz.renC:Go.Shelf.Ren:=⟨fun | 5=>29 | 7=>55 | n=>n,fun | 3=>75 | 4=>4 | 20=>20 | 23=>67 | 25=>9 | n=>n,fun n=>n⟩
theorem Tryz.cloneD:SlLaysW.n5 Tryz.prog Tryz.renC:={
  mixed:=by kernel_rfl,
  f5:=⟨Tryz.f29.name,by decide,Tryz.func29.trans (congrArg some (by kernel_rfl))⟩,
  f7:=Tryz.func55.trans (congrArg some (by kernel_rfl)),
  t4:=Tryz.underlying4,a4:=Tryz.isAgg4,z4:=Tryz.sizeOf4,v4:=Tryz.zeroValue4,
  t20:=Tryz.underlying20,a20:=Tryz.isAgg20,z20:=Tryz.sizeOf20,v20:=Tryz.zeroValue20,
  t23:=Tryz.underlying67,a23:=Tryz.isAgg67,z23:=Tryz.sizeOf67,v23:=Tryz.zeroValue67
}
theorem names_slice {w0 w':World} {v:Value} {ss:List (List UInt8)} {l:List ByteArray} (hss:ss.mergeSort (fun x y=>decide (x ≤ y)) = l.map L) (hln:ss.length = l.length)
    (hrow:w'.ownsRow w0.heap.size 9 1 v ss.length ((ss.mergeSort (fun x y=>decide (x ≤ y))).map encStr)) (hb:Below w0.heap.size w0 w') :
    RetRow w0 9 1 l.length (scells l) (.returned v) w':=by
  rw [hss,hln] at hrow
  have e:(l.map L).map encStr = scells l:=by
    rw [List.map_map]
    apply List.map_congr_left
    intro x _
    rfl
  rw [e] at hrow
  rcases hrow.2 with ⟨rfl,h0⟩ | ⟨g,cap,cur,rfl,r⟩
  · have:l = []:=List.eq_nil_of_length_eq_zero h0
    subst this
    exact ⟨none,0,rfl,Row.none_ _ _ _ _,hb⟩
  · exact ⟨some ⟨g,0,none⟩,cap,rfl,.inl hrow,hb⟩
theorem perm_len {fa:Nat → Nat} {l:D.NM} {ss:List (List UInt8)} (h:ss.Perm (strKeys (D.datum fa l))):ss.length = (l.map (·.1)).length:=by
  rw [h.length_eq,D.keys_datum,List.length_map,List.length_map]
theorem sorts_in (m:Nat):AnyZ.SortsIn Tryz.prog Tryz.renS Fence.wide m :=
  ⟨fun blk off cap ss W hH hblk hsz=>callsIn_wide.2 (Tryz.slices_Sort_string blk off cap ss W hH hblk hsz),
   fun p cap W=>callsIn_wide.2 (Tryz.slices_Sort_string_none p cap W)⟩
theorem keysD_any (mb:Option Nat) (w:World):Calls Tryz.prog 50 #[.map mb] w (fun e w'=>e = .returned (.func (.func 85) #[] #[.pointer (some ⟨w.heap.size,0,none⟩)]) ∧ w' = w.alloc (.cells #[.map mb] 67)) :=
  (callsIn_wide (n:=5)).1 (AnyZ.keys_in Tryz.keysD Fence.wide 5 trivial rfl mb w)
set_option maxHeartbeats 1000000 in
theorem sortedD_any {R:Value → Option (DataW Unit × List MemPlace)} (fa:Nat → Nat) (l:D.NM) (k b:Nat) (w:World) (hk:k < w.heap.size) (hm:w.cell? ⟨k,0,none⟩ = some (.map (some b))) (h:w.ownsMap Tryz.prog 9 R b l.length (D.datum fa l)) (hu:D.Up l) (hl:l.length ≤ 1073741824) :
    Calls Tryz.prog 46 #[.func (.func 85) #[] #[.pointer (some ⟨k,0,none⟩)]] w (RetRow w 9 1 (l.map (·.1)).length (scells (l.map (·.1)))):=by
  have hsz:Maps.size (D.datum fa l) = l.length:=by
    unfold D.datum
    rw [Maps.size_eq]
    simp
  have hseq:SeqGives Fence.wide 2 Tryz.prog 85 #[.pointer (some ⟨k,0,none⟩)] encStr (fun ss=>ss.Perm (strKeys (D.datum fa l))) (Maps.size (D.datum fa l)) w :=
    AnyZ.keys_gives (ρ:=Tryz.renKD) { Tryz.keysD with } Fence.wide 2 trivial rfl (by omega) k b l.length (D.datum fa l) w hk hm h
  have cS:=AnyZ.sorted_in Tryz.sortedL Fence.wide 5 trivial trivial trivial trivial rfl (by omega) (sorts_in _) (enters_of Tryz.func82 (by kernel_rfl) rfl) 85 #[.pointer (some ⟨k,0,none⟩)] trivial (enters_of Tryz.func85 (by kernel_rfl) rfl) _ _ (by rw [hsz]; simp only [maxLen]; omega) (by rw [hsz]; omega) w hseq
  refine ((callsIn_wide (n:=5)).1 cS).mono ?_
  rintro e w' ⟨v,ss,rfl,hS,hrow,hnil,hb⟩
  exact names_slice ((D.keys_sorted hu hS).trans (by rw [List.map_map]; rfl)) (perm_len hS) hrow hb
theorem keysT_any (mb:Option Nat) (w:World):Calls Tryz.prog 47 #[.map mb] w (fun e w'=>e = .returned (.func (.func 83) #[] #[.pointer (some ⟨w.heap.size,0,none⟩)]) ∧ w' = w.alloc (.cells #[.map mb] 84)) :=
  (callsIn_wide (n:=5)).1 (AnyZ.keys_in Tryz.keysT Fence.wide 5 trivial rfl mb w)
set_option maxHeartbeats 1000000 in
theorem sortedT_any {R:Value → Option (DataW Unit × List MemPlace)} (fa:Nat → Nat) (l:D.NM) (k b:Nat) (w:World) (hk:k < w.heap.size) (hm:w.cell? ⟨k,0,none⟩ = some (.map (some b))) (h:w.ownsMap Tryz.prog 9 R b l.length (D.datum fa l)) (hu:D.Up l) (hl:l.length ≤ 1073741824) :
    Calls Tryz.prog 46 #[.func (.func 83) #[] #[.pointer (some ⟨k,0,none⟩)]] w (RetRow w 9 1 (l.map (·.1)).length (scells (l.map (·.1)))):=by
  have hsz:Maps.size (D.datum fa l) = l.length:=by
    unfold D.datum
    rw [Maps.size_eq]
    simp
  have hseq:SeqGives Fence.wide 2 Tryz.prog 83 #[.pointer (some ⟨k,0,none⟩)] encStr (fun ss=>ss.Perm (strKeys (D.datum fa l))) (Maps.size (D.datum fa l)) w :=
    AnyZ.keys_gives (ρ:=Tryz.renKT) { Tryz.keysT with } Fence.wide 2 trivial rfl (by omega) k b l.length (D.datum fa l) w hk hm h
  have cS:=AnyZ.sorted_in Tryz.sortedL Fence.wide 5 trivial trivial trivial trivial rfl (by omega) (sorts_in _) (enters_of Tryz.func82 (by kernel_rfl) rfl) 83 #[.pointer (some ⟨k,0,none⟩)] trivial (enters_of Tryz.func83 (by kernel_rfl) rfl) _ _ (by rw [hsz]; simp only [maxLen]; omega) (by rw [hsz]; omega) w hseq
  refine ((callsIn_wide (n:=5)).1 cS).mono ?_
  rintro e w' ⟨v,ss,rfl,hS,hrow,hnil,hb⟩
  exact names_slice ((D.keys_sorted hu hS).trans (by rw [List.map_map]; rfl)) (perm_len hS) hrow hb
theorem cloneM_any (M:DM) (l:D.NM) (b:Nat) (w:World) (h:w.ownsMap Tryz.prog 9 D.ptrR b l.length (D.datum M.fa l)) :
    Calls Tryz.prog 29 #[.map (some b)] w (fun e w'=>e = .returned (.map (some w.heap.size)) ∧ w'.ownsMap Tryz.prog 9 D.ptrR w.heap.size l.length (D.datum M.fa l) ∧ Below w.heap.size w w' ∧ w.heap.size < w'.heap.size) :=
  (AnyW.maps_Clone_owns Tryz.cloneD 9 D.ptrR b l.length (D.datum M.fa l) w h).mono fun _ _ ⟨h1,h2,_,h4⟩=>⟨h1,h2,h4,h2.lt⟩
end Go.Proofs.YtkempjcphpnocaaGreatDoor
namespace Go.Proofs.YtkempjcphpnocaaGreatDoor
open Go Go.RowKit Go.Maps
structure Went (F:Nat → Prop) (w:World) (F':Nat → Prop) (w':World):Prop where
  os:w'.os = w.os
  tape:w'.tape = w.tape
  output:w'.output = w.output
  size:w.heap.size ≤ w'.heap.size
  block:∀ k,k < w.heap.size → ¬ F k → w'.heap[k]? = w.heap[k]?
  foot:∀ k,F' k → F k ∨ w.heap.size ≤ k
section
variable {F F' F'' G G':Nat → Prop} {w w' w'':World} {b k:Nat} {cs:Array Value} {t e:TypeId} {A:Option Addr} {base s n c:Nat} {xs:List Value}
theorem Went.refl (F:Nat → Prop) (w:World):Went F w F w:=⟨rfl,rfl,rfl,Nat.le_refl _,fun _ _ _=>rfl,fun _ h=>.inl h⟩
theorem Went.trans (h:Went F w F' w') (k:Went F' w' F'' w''):Went F w F'' w'' :=
  ⟨k.os.trans h.os,k.tape.trans h.tape,k.output.trans h.output,Nat.le_trans h.size k.size,fun i hi hn=>(k.block i (Nat.lt_of_lt_of_le hi h.size) (fun hf=>by
    rcases h.foot i hf with h1 | h1
    · exact hn h1
    · omega)).trans (h.block i hi hn),fun i hf=>by
    rcases k.foot i hf with h1 | h1
    · exact h.foot i h1
    · exact .inr (Nat.le_trans h.size h1)⟩
theorem Went.below (h:Below w.heap.size w w') (F:Nat → Prop):Went F w F w':=⟨h.os,h.tape,h.output,h.size,fun k hk _=>h.block k hk,fun _ h=>.inl h⟩
theorem Went.wide (h:Went F w F' w') (hF:∀ k,F k → G k) (hF':∀ k,G' k → F' k ∨ G k ∨ w.heap.size ≤ k):Went G w G' w' :=
  ⟨h.os,h.tape,h.output,h.size,fun k hk hn=>h.block k hk (fun hf=>hn (hF k hf)),fun k hk=>by
    rcases hF' k hk with h1 | h1 | h1
    · rcases h.foot k h1 with h2 | h2
      · exact .inl (hF k h2)
      · exact .inr h2
    · exact .inl h1
    · exact .inr h1⟩
theorem Went.grown {r:Option Nat} (hg:w.grownBy w' r) (hr:∀ k,r = some k → F k) (hf:∀ k,F' k → F k ∨ w.heap.size ≤ k):Went F w F' w' :=
  ⟨hg.os,hg.tape,hg.output,hg.size,fun k hk hn=>hg.block k hk (fun e=>hn (hr k e.symm)),hf⟩
theorem Went.blk (h:Went F w F' w') (hb:Blk w b cs t) (hn:¬ F b):Blk w' b cs t:=(h.block b hb.lt hn).trans hb
theorem Went.rd (h:Went F w F' w') (hx:Rd w A n s xs) (hA:0 < n → ∀ a,A = some a → ¬ F a.block):Rd w' A n s xs :=
  ⟨hx.1,fun hn=>by
    obtain ⟨b,o,rfl,hlt,hc⟩:=hx.2 hn
    exact ⟨b,o,rfl,Nat.lt_of_lt_of_le hlt h.size,fun j u hu=>(World.cell?_of_block (w:=w) (a:=⟨b,o + j,none⟩) (h.block b hlt (hA hn _ rfl))).trans (hc j u hu)⟩⟩
theorem Went.row (h:Went F w F' w') (hx:Row w base e s A n c xs) (hA:∀ k,ownB A c = some k → ¬ F k):Row w' base e s A n c xs:=by
  by_cases hc:c = 0
  · have hn:=hx.cap.1
    have hn0:n = 0:=by omega
    subst hn0
    exact .inr ⟨rfl,hc,List.eq_nil_of_length_eq_zero (by have:=hx.len; simpa using this)⟩
  · rcases hx with hx | hx
    · rcases hx with ⟨hl,hx⟩
      refine .inl ⟨hl,?_⟩
      rcases hx with hx | ⟨g,cap,cur,hv,hb,hg,hr⟩
      · exact .inl hx
      · have hA2:A = some ⟨g,0,none⟩:=by injection hv
        refine .inr ⟨g,cap,cur,hv,hb,?_,hr⟩
        rw [h.block g (Array.getElem?_eq_some_iff.1 hg).1 (hA g (by unfold ownB; rw [if_neg hc,hA2]; rfl))]
        exact hg
    · exact .inr hx
theorem Went.map {K:TypeId} {R:Value → Option (DataW Unit × List MemPlace)} {D:DataW Unit} (h:Went F w F' w') (hm:w.ownsMap Tryz.prog K R b n D) (hn:¬ F b):w'.ownsMap Tryz.prog K R b n D:=by
  have hlt:=hm.lt
  obtain ⟨es,cl,hb,r⟩:=hm
  exact ⟨es,cl,(h.block b hlt hn).trans hb,r⟩
theorem Went.crow {bs:List UInt8} (h:Went F w F' w') (hx:CRow w base A n c bs) (hA:∀ k,ownB A c = some k → ¬ F k):CRow w' base A n c bs:=by
  obtain ⟨h1,h2,h3⟩:=hx
  refine ⟨h1,h2,?_⟩
  rcases h3 with h3 | ⟨g,hg,hB,hlt,hf,hc⟩
  · exact .inl h3
  · by_cases hc0:c = 0
    · exact .inl hc0
    have hbl:w'.heap[g]? = w.heap[g]?:=h.block g hlt (hA g (by unfold ownB; rw [if_neg hc0,hg]; rfl))
    exact .inr ⟨g,hg,hB,Nat.lt_of_lt_of_le hlt h.size,fun j hj=>⟨by rw [World.cell?_of_block (w:=w) (a:=⟨g,j,none⟩) hbl]; exact (hf j hj).1,by unfold World.frozen?; rw [hbl]; exact (hf j hj).2⟩,fun j u hu=>by rw [World.cell?_of_block (w:=w) (a:=⟨g,j,none⟩) hbl]; exact hc j u hu⟩
end
section
variable {B:Nat} {M M':DM} {s s':D.Dsk} {w w':World} {k:Nat} {t:TypeId}
theorem Stepped.went (h:Stepped M s w M' s' w'):Went (M.foot s) w (M'.foot s') w':=⟨h.os,h.tape,h.output,h.size,h.block,h.foot⟩
theorem DkAt.off (h:DkAt B M s w) (ht:Tag w k t) (h1:t ≠ 71) (h2:t ≠ 115) (h3:t ≠ 78) (h4:t ≠ 5):¬ M.foot s k:=by
  rintro (rfl | rfl | rfl | hf | ⟨no,hn,rfl | hf⟩)
  · exact ht.ne h.blk.tag h1 rfl
  · exact ht.map (ownsMap_tag h.now) rfl
  · exact ht.map (ownsMap_tag h.safe) rfl
  · exact ht.ne (h.pend.tag hf) h2 rfl
  · exact ht.ne (h.files no hn).blk.tag h3 rfl
  · exact ht.ne ((h.files no hn).row.tag hf) h4 rfl
theorem DkAt.offMap (h:DkAt B M s w) (hm:MapB w k) (h1:k ≠ M.mN) (h2:k ≠ M.mS):¬ M.foot s k:=by
  rintro (rfl | rfl | rfl | hf | ⟨no,hn,rfl | hf⟩)
  · exact h.blk.tag.map hm rfl
  · exact h1 rfl
  · exact h2 rfl
  · exact (h.pend.tag hf).map hm rfl
  · exact (h.files no hn).blk.tag.map hm rfl
  · exact ((h.files no hn).row.tag hf).map hm rfl
end
structure LgAt (B l:Nat) (M:DM) (d:D.Dsk) (count:Nat) (w:World):Prop where
  disk:DkAt B M d w
  blk:Blk w l #[.pointer (some ⟨M.d,0,none⟩),.int .i64 count] 118
  ge:B ≤ l
def lgFoot (l:Nat) (M:DM) (d:D.Dsk) (k:Nat):Prop:=M.foot d k ∨ k = l
section
variable {B l:Nat} {M M':DM} {d d':D.Dsk} {w w':World} {k count:Nat}
theorem LgAt.off (h:LgAt B l M d count w):¬ M.foot d l:=h.disk.off h.blk.tag (by decide) (by decide) (by decide) (by decide)
theorem LgAt.below (h:LgAt B l M d count w) (hb:Below w.heap.size w w'):LgAt B l M d count w':=⟨h.disk.below hb,h.blk.below hb,h.ge⟩
theorem LgAt.step (h:LgAt B l M d count w) (hd:DkAt B M' d' w') (hs:Stepped M d w M' d' w'):LgAt B l M' d' count w' ∧ Went (lgFoot l M d) w (lgFoot l M' d') w' :=
  ⟨⟨hd,by rw [hs.same]; exact hs.went.blk h.blk h.off,h.ge⟩,hs.went.wide (fun k hk=>.inl hk) (fun k hk=>by
    rcases hk with hk | hk
    · exact .inl hk
    · exact .inr (.inl (.inr hk)))⟩
theorem LgAt.cells (h:LgAt B l M d count w):w.cell? ⟨l,0,none⟩ = some (.pointer (some ⟨M.d,0,none⟩)) ∧ w.cell? ⟨l,1,none⟩ = some (.int .i64 count):=h.blk.cells2
theorem LgAt.counted (h:LgAt B l M d count w) (n:Nat):LgAt B l M d n (w.setCell ⟨l,1,none⟩ (.int .i64 n)) ∧ Went (lgFoot l M d) w (lgFoot l M d) (w.setCell ⟨l,1,none⟩ (.int .i64 n)):=by
  have hg:=grown_set w l 1 (.int .i64 n)
  have hT:=h.blk.tag
  have hw:Went (fun k=>k = l) w (fun k=>k = l) (w.setCell ⟨l,1,none⟩ (.int .i64 n)):=Went.grown hg (fun k e=>(by simpa using e.symm)) (fun k hk=>.inl hk)
  refine ⟨⟨?_,h.blk.set 1 _,h.ge⟩,hw.wide (fun k hk=>.inr hk) (fun k hk=>.inr (.inl hk))⟩
  have hb:∀ {k t},Tag w k t → t ≠ 118 → k ≠ l:=fun ht hn=>ht.ne hT hn
  obtain ⟨a1,a2,a3,a4,a5,a6,a7,a8,a9,a10⟩:=h.disk
  exact ⟨hw.blk a1 (hb a1.tag (by decide)),hw.map a2 (fun e=>hT.map (ownsMap_tag a2) e.symm),hw.map a3 (fun e=>hT.map (ownsMap_tag a3) e.symm),a4,hw.row a5 (fun k hk=>hb (a5.tag hk) (by decide)),
    a6.imp (fun c v hc=>hc.keptT hg (fun k e=>by cases e; exact hT) (by decide)),hw.row a7 (fun k hk=>hb (a7.tag hk) (by decide)),
    fun no hn=>⟨hw.blk (a8 no hn).blk (hb (a8 no hn).blk.tag (by decide)),hw.row (a8 no hn).row (fun k hk=>hb ((a8 no hn).row.tag hk) (by decide)),(a8 no hn).ge⟩,a9,a10⟩
end
def RetLog (B l:Nat) (M:DM) (d:D.Dsk) (w:World) (x:D.Dsk × Nat × Int) (e:Ending) (w':World):Prop :=
  e = .returned (.int .i64 x.2.2) ∧ ∃ M',LgAt B l M' x.1 x.2.1 w' ∧ Went (lgFoot l M d) w (lgFoot l M' x.1) w' ∧ M'.d = M.d
namespace S
def intR:Value → Option (DataW Unit × List MemPlace)
  | .int .i64 z=>some (.lit (.int .i64 z),[])
  | _=>none
def datT (t:D.NM):DataW Unit:=D.datum (fun n=>n) t
def bools (l:List Bool):List Value:=l.map Value.bool
end S
structure SM where
  M:DM
  st:Nat
  lg:Nat
  tb:Nat
  U:Option Addr
  uc:Nat
structure StAt (B:Nat) (X:SM) (s:S.Sto) (w:World):Prop where
  log:LgAt B X.lg X.M s.d s.count w
  blk:Blk w X.st #[.pointer (some ⟨X.M.d,0,none⟩),.pointer (some ⟨X.lg,0,none⟩),.map (some X.tb),.slice X.U s.used.length X.uc] 87
  tab:w.ownsMap Tryz.prog 9 S.intR X.tb s.tab.length (S.datT s.tab)
  ne:X.tb ≠ X.M.mN ∧ X.tb ≠ X.M.mS
  used:Row w B 4 1 X.U s.used.length X.uc (S.bools s.used)
  ge:B ≤ X.st ∧ B ≤ X.tb
def SM.foot (X:SM) (s:S.Sto) (k:Nat):Prop:=X.M.foot s.d k ∨ k = X.lg ∨ k = X.st ∨ k = X.tb ∨ ownB X.U X.uc = some k
section
variable {B:Nat} {X:SM} {s:S.Sto} {w w':World} {M':DM} {d':D.Dsk} {k n:Nat}
theorem StAt.below (h:StAt B X s w) (hb:Below w.heap.size w w'):StAt B X s w' :=
  ⟨h.log.below hb,h.blk.below hb,h.tab.kept (show w.grownBy w' none from ⟨hb.os,hb.tape,hb.output,hb.size,fun k hk _=>hb.block k hk⟩) (by simp),h.ne,h.used.below hb,h.ge⟩
theorem StAt.cells (h:StAt B X s w):w.cell? ⟨X.st,0,none⟩ = some (.pointer (some ⟨X.M.d,0,none⟩)) ∧ w.cell? ⟨X.st,1,none⟩ = some (.pointer (some ⟨X.lg,0,none⟩)) ∧ w.cell? ⟨X.st,2,none⟩ = some (.map (some X.tb)) ∧ w.cell? ⟨X.st,3,none⟩ = some (.slice X.U s.used.length X.uc):=h.blk.cells4
theorem StAt.offs (h:StAt B X s w):¬ lgFoot X.lg X.M s.d X.st ∧ ¬ lgFoot X.lg X.M s.d X.tb ∧ ∀ k,ownB X.U X.uc = some k → ¬ lgFoot X.lg X.M s.d k:=by
  refine ⟨?_,?_,fun k hk=>?_⟩
  · rintro (hf | hf)
    · exact h.log.disk.off h.blk.tag (by decide) (by decide) (by decide) (by decide) hf
    · exact h.blk.tag.ne h.log.blk.tag (by decide) hf
  · rintro (hf | hf)
    · exact h.log.disk.offMap (ownsMap_tag h.tab) h.ne.1 h.ne.2 hf
    · exact h.log.blk.tag.map (ownsMap_tag h.tab) hf.symm
  · rintro (hf | hf)
    · exact h.log.disk.off (h.used.tag hk) (by decide) (by decide) (by decide) (by decide) hf
    · exact (h.used.tag hk).ne h.log.blk.tag (by decide) hf
theorem StAt.lt (h:StAt B X s w) (hf:X.foot s k):k < w.heap.size:=by
  rcases hf with hf | rfl | rfl | rfl | hf
  · exact h.log.disk.lt hf
  · exact h.log.blk.lt
  · exact h.blk.lt
  · exact h.tab.lt
  · exact (h.used.lt k hf).2
theorem StAt.base (h:StAt B X s w):B ≤ w.heap.size:=Nat.le_trans h.ge.1 (Nat.le_of_lt h.blk.lt)
theorem StAt.logged (h:StAt B X s w) (hl:LgAt B X.lg M' d' n w') (hw:Went (lgFoot X.lg X.M s.d) w (lgFoot X.lg M' d') w') (hd:M'.d = X.M.d) :
    StAt B { X with M:=M' } { s with d:=d',count:=n } w' ∧ Went (X.foot s) w (({ X with M:=M' }:SM).foot { s with d:=d',count:=n }) w':=by
  obtain ⟨o1,o2,o3⟩:=h.offs
  have hlt:=h.tab.lt
  have hne:∀ x,M'.foot d' x → x ≠ X.tb:=fun x hx e=>by
    rcases hw.foot x (.inl hx) with h1 | h1
    · rw [e] at h1; exact o2 h1
    · rw [e] at h1; omega
  refine ⟨⟨hl,by rw [hd]; exact hw.blk h.blk o1,hw.map h.tab o2,⟨fun e=>hne M'.mN (.inr (.inl rfl)) e.symm,fun e=>hne M'.mS (.inr (.inr (.inl rfl))) e.symm⟩,hw.row h.used o3,h.ge⟩,hw.wide (fun k hk=>?_) (fun k hk=>?_)⟩
  · rcases hk with hk | hk
    · exact .inl hk
    · exact .inr (.inl hk)
  · rcases hk with hk | hk | hk
    · exact .inl (.inl hk)
    · exact .inl (.inr hk)
    · exact .inr (.inl (.inr (.inr hk)))
theorem StAt.step (h:StAt B X s w) (hd:DkAt B M' d' w') (hs:Stepped X.M s.d w M' d' w') :
    StAt B { X with M:=M' } { s with d:=d' } w' ∧ Went (X.foot s) w (({ X with M:=M' }:SM).foot { s with d:=d' }) w':=by
  obtain ⟨h1,h2⟩:=h.log.step hd hs
  exact h.logged h1 h2 hs.same
theorem StAt.tabbed {t':D.NM} (h:StAt B X s w) (hm:w'.ownsMap Tryz.prog 9 S.intR X.tb t'.length (S.datT t')) (hg:w.grownBy w' (some X.tb)) :
    StAt B X { s with tab:=t' } w' ∧ Went (X.foot s) w (X.foot { s with tab:=t' }) w':=by
  have hw:Went (fun k=>k = X.tb) w (fun k=>k = X.tb) w':=Went.grown hg (fun k e=>(by simpa using e.symm)) (fun k hk=>.inl hk)
  have hM:=ownsMap_tag h.tab
  have hb:∀ {k t},Tag w k t → k ≠ X.tb:=fun ht=>ht.map hM
  obtain ⟨⟨a1,a2,a3,a4,a5,a6,a7,a8,a9,a10⟩,b2,b3⟩:=h.log
  refine ⟨⟨⟨⟨hw.blk a1 (hb a1.tag),hw.map a2 (fun e=>h.ne.1 e.symm),hw.map a3 (fun e=>h.ne.2 e.symm),a4,hw.row a5 (fun k hk=>hb (a5.tag hk)),
    a6.imp (fun c v hc=>hc.kept hg (fun k t e ht=>by cases e; exact absurd rfl (hb ht))),hw.row a7 (fun k hk=>hb (a7.tag hk)),
    fun no hn=>⟨hw.blk (a8 no hn).blk (hb (a8 no hn).blk.tag),hw.row (a8 no hn).row (fun k hk=>hb ((a8 no hn).row.tag hk)),(a8 no hn).ge⟩,a9,a10⟩,hw.blk b2 (hb b2.tag),b3⟩,hw.blk h.blk (hb h.blk.tag),hm,h.ne,hw.row h.used (fun k hk=>hb (h.used.tag hk)),h.ge⟩,
    hw.wide (fun k hk=>.inr (.inr (.inr (.inl hk)))) (fun k hk=>.inr (.inl hk))⟩
theorem StAt.marked (h:StAt B X s w) {no:Nat} (hn:no < s.used.length) (v:Bool):∃ g,X.U = some ⟨g,0,none⟩ ∧ w.frozen? ⟨g,no,none⟩ = false ∧ w.cell? ⟨g,no,none⟩ = some (.bool (s.used.getD no false)) ∧
    StAt B X { s with used:=s.used.set no v } (w.setCell ⟨g,no,none⟩ (.bool v)) ∧ Went (X.foot s) w (X.foot { s with used:=s.used.set no v }) (w.setCell ⟨g,no,none⟩ (.bool v)):=by
  have hrow:=h.used
  have hcap:=hrow.cap.1
  have hc0:X.uc ≠ 0:=by omega
  rcases hrow with hr | hr
  rotate_left
  · exact absurd hr.2.1 hc0
  obtain ⟨hlen,hr⟩:=hr
  rcases hr with ⟨_,h0⟩ | ⟨g,cap,cur,hv,hB,hg,h1,h2,h3,h4⟩
  · omega
  have hU:X.U = some ⟨g,0,none⟩:=by injection hv
  have hcap2:X.uc = cap:=by injection hv
  have hown:ownB X.U X.uc = some g:=by unfold ownB; rw [if_neg hc0,hU]; rfl
  have hT:Tag w g 4:=⟨_,_,hg⟩
  have hgs:=grown_set w g no (.bool v)
  have hw:Went (fun k=>k = g) w (fun k=>k = g) (w.setCell ⟨g,no,none⟩ (.bool v)):=Went.grown hgs (fun k e=>(by simpa using e.symm)) (fun k hk=>.inl hk)
  have hb:∀ {k t},Tag w k t → t ≠ 4 → k ≠ g:=fun ht hn=>ht.ne hT hn
  obtain ⟨⟨a1,a2,a3,a4,a5,a6,a7,a8,a9,a10⟩,b2,b3⟩:=h.log
  have hlen2:(s.used.set no v).length = s.used.length:=List.length_set
  refine ⟨g,hU,by simp [World.frozen?,hg],?_,⟨⟨⟨hw.blk a1 (hb a1.tag (by decide)),hw.map a2 (fun e=>hT.map (ownsMap_tag a2) e.symm),hw.map a3 (fun e=>hT.map (ownsMap_tag a3) e.symm),a4,hw.row a5 (fun k hk=>hb (a5.tag hk) (by decide)),
    a6.imp (fun c v hc=>hc.keptT hgs (fun k e=>by cases e; exact hT) (by decide)),hw.row a7 (fun k hk=>hb (a7.tag hk) (by decide)),
    fun no hn=>⟨hw.blk (a8 no hn).blk (hb (a8 no hn).blk.tag (by decide)),hw.row (a8 no hn).row (fun k hk=>hb ((a8 no hn).row.tag hk) (by decide)),(a8 no hn).ge⟩,a9,a10⟩,hw.blk b2 (hb b2.tag (by decide)),b3⟩,?_,hw.map h.tab (fun e=>hT.map (ownsMap_tag h.tab) e.symm),h.ne,?_,h.ge⟩,
    hw.wide (fun k hk=>.inr (.inr (.inr (.inr (by rw [hk]; exact hown))))) (fun k hk=>.inr (.inl hk))⟩
  · rw [cell_of_row _ g no _ _ _ hg]
    have h5:cur.toList[no]? = some (.bool (s.used.getD no false)):=by
      have h6:(cur.toList.take (s.used.length * 1))[no]? = some (.bool (s.used.getD no false)):=by
        rw [h4]
        unfold S.bools
        rw [List.getElem?_map,List.getElem?_eq_getElem hn]
        simp [List.getD,hn]
      rw [List.getElem?_take] at h6
      rw [if_pos (by omega)] at h6
      exact h6
    simpa using h5
  · show Blk _ _ #[_,_,_,.slice X.U (s.used.set no v).length X.uc] _
    rw [hlen2]
    exact hw.blk h.blk (hb h.blk.tag (by decide))
  · show Row _ _ _ _ X.U (s.used.set no v).length X.uc (S.bools (s.used.set no v))
    rw [hlen2]
    refine .inl ⟨by unfold S.bools; simp,.inr ⟨g,cap,cur.setIfInBounds no (.bool v),hv,hB,?_,h1,h2,by rw [Array.size_setIfInBounds]; exact h3,?_⟩⟩
    · unfold World.setCell
      simp only [Array.getElem?_modify,if_true,hg]
      rfl
    · have:S.bools (s.used.set no v) = (S.bools s.used).set no (.bool v):=by unfold S.bools; rw [List.map_set]
      rw [this,← h4]
      simp [List.take_set]
end
def RetSto (B:Nat) (X:SM) (s:S.Sto) (w:World) (s':S.Sto) (v:Value) (e:Ending) (w':World):Prop :=
  e = .returned v ∧ ∃ X',StAt B X' s' w' ∧ Went (X.foot s) w (X'.foot s') w' ∧ X'.st = X.st ∧ X'.M.d = X.M.d ∧ X'.lg = X.lg
end Go.Proofs.YtkempjcphpnocaaGreatDoor
