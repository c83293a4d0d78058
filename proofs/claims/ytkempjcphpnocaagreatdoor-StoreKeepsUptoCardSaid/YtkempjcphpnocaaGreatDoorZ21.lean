/- The walk of the store's Open over a new disk. Conditions: what the disk's steps ask. The walk of the store's sound; maps to nothing in memory. Conditions: what the disk's steps ask; at most 4096 numbers. -/
import Derived.Test.YtkempjcphpnocaaGreatDoorZ15
import Derived.Test.YtkempjcphpnocaaGreatDoorZ25
import Derived.Test.YtkempjcphpnocaaGreatDoorZ11
import Derived.Test.YtkempjcphpnocaaGreatDoorHeadA
import Derived.Maps.OwnSet
import Derived.Test.YtkempjcphpnocaaGreatDoorZ19
import Derived.Test.YtkempjcphpnocaaGreatDoorStoG
namespace Go.Proofs.YtkempjcphpnocaaGreatDoor
open Go Go.RowKit Go.Maps
theorem unT_ul:Tryz.prog.underlying 90 = some (.map 9 92):=by kernel_rfl
theorem zeroUnit (w:World):(zeroValue 92).run Tryz.prog w = .ok (.agg #[]) w:=by kernel_rfl
theorem unit_none {b:Nat} {w:World} (h:w.ownsMap Tryz.prog 9 (unitElem (H:=Unit)) b 0 (.map [])) (nm:ByteArray) (hs:nm.size ≤ maxLen) :
    (Instr.lookup 90 (.map (some b)) (.string nm) true).run Tryz.prog w = .ok (.tuple #[.agg #[],.bool false]) w:=by
  obtain ⟨v,ps,hr,hv⟩:=h.look_ok (string_keyed strT_ul) unT_ul (zeroUnit w) (zd:=.agg []) (zp:=[]) unitElem_mk (nmKey nm hs)
  obtain ⟨rfl,_⟩:=unitElem_inv hv
  exact hr
theorem isO_any (nm:ByteArray) (w:World):Calls Tryz.prog 34 #[.string nm,.string ⟨#[111,47]⟩] w (RetP w (.bool (S.isO nm))):=by
  have e:Lib.hasPrefix (L nm) (L ⟨#[111,47]⟩) = S.isO nm:=by
    unfold S.isO
    rw [← Lib.hasPrefix_of_take]
    have e2:(L (⟨#[111,47]⟩:ByteArray)) = [111,47]:=rfl
    rw [e2,Bool.eq_iff_iff]
    simp only [Bool.and_eq_true,decide_eq_true_eq,beq_iff_eq,List.length_cons,List.length_nil]
    constructor
    · exact fun h=>h.2
    · intro h
      refine ⟨?_,h⟩
      have:=congrArg List.length h
      rw [List.length_take] at this
      simp at this
      omega
  rw [← e]
  exact prefix_any nm _ w
theorem Tryz.infoT:(Tryz.prog.info? 4).map (fun i=>(i.zero,i.size,i.bytes)) = some (some (.bool false),1,1):=by kernel_rfl
theorem makeBools (n:Nat) (h1:n ≤ 1099511627776):∃ C:Array Value,C.toList = S.bools (S.marks n []) ∧ ∀ w:World,(Instr.makeSlice 85 (.int .i64 n) (.int .i64 n)).run Tryz.prog w = .ok (.slice (some ⟨w.heap.size,0,none⟩) n n) (w.alloc (.cells C 4)):=by
  obtain ⟨i0,hi0,hz0,hz1,hz2⟩:=info_parts Tryz.infoT
  have hmk:=fun w=>run_make (P:=Tryz.prog) w 85 4 i0 _ Tryz.underlying85 hi0 hz0 .i64 .i64 (n:Int) (n:Int) (by omega) (Int.le_refl _) (by rw [hz2]; omega) (by omega)
  simp only [hz1,Nat.mul_one,Int.toNat_natCast] at hmk
  refine ⟨_,?_,hmk⟩
  rw [S.marks_rep]
  unfold S.bools
  rw [List.map_replicate]
  apply List.ext_getElem
  · simp [madeCells]
  · intro i h1 h2
    simp [madeCells,Value.cells]
    rw [Nat.mod_one]
    rfl
theorem StAt.new {B l n:Nat} {M:DM} {d:D.Dsk} {w w1:World} {tb g st:Nat} {bs:List Bool} {C:Array Value} {count:Nat} (h:LgAt B l M d count w) (hb:Below w.heap.size w w1) (h1:w.heap.size ≤ tb) (h2:w.heap.size ≤ g) (h3:w.heap.size ≤ st)
    (hm:w1.ownsMap Tryz.prog 9 S.intR tb 0 (.map [])) (hC:C.toList = S.bools bs) (hn:bs.length = n) (hn4:n ≤ 4096) (hg:Blk w1 g C 4) (hs:Blk w1 st #[.pointer (some ⟨M.d,0,none⟩),.pointer (some ⟨l,0,none⟩),.map (some tb),.slice (some ⟨g,0,none⟩) n n] 87) :
    StAt B ⟨M,st,l,tb,some ⟨g,0,none⟩,n⟩ ⟨d,count,[],bs⟩ w1 ∧ Went (lgFoot l M d) w ((⟨M,st,l,tb,some ⟨g,0,none⟩,n⟩:SM).foot ⟨d,count,[],bs⟩) w1:=by
  subst hn
  have hB:=h.disk.base
  have hsz:C.size = bs.length:=by have:=congrArg List.length hC; simpa [S.bools] using this
  refine ⟨⟨h.below hb,hs,hm,⟨?_,?_⟩,.inl ⟨by simp [S.bools],.inr ⟨g,bs.length,C,rfl,by omega,hg,Nat.le_refl _,?_,by omega,?_⟩⟩,⟨by show B ≤ st; omega,by show B ≤ tb; omega⟩⟩,(Went.below hb (lgFoot l M d)).wide (fun _ h=>h) (fun k hk=>?_)⟩
  · have:=h.disk.now.lt
    show tb ≠ M.mN
    omega
  · have:=h.disk.safe.lt
    show tb ≠ M.mS
    omega
  · simp only [maxLen]; omega
  · rw [Nat.mul_one,hC,List.take_of_length_le (by simp [S.bools])]
  · rcases hk with hk | hk | hk | hk | hk
    · exact .inl (.inl hk)
    · exact .inl (.inr hk)
    · exact .inr (.inr (by rw [hk]; exact h3))
    · exact .inr (.inr (by rw [hk]; exact h1))
    · refine .inr (.inr ?_)
      unfold ownB at hk
      split at hk
      · cases hk
      · cases hk; exact h2
def RetBorn (B:Nat) (M:DM) (room:Int) (n:Nat) (w:World) (e:Ending) (w':World):Prop :=
  ∃ X,e = .returned (.tuple #[.pointer (some ⟨X.st,0,none⟩),.int .i64 0]) ∧ StAt B X ⟨S.born room,0,[],S.marks n []⟩ w' ∧ Went (M.foot (S.fresh room)) w (X.foot ⟨S.born room,0,[],S.marks n []⟩) w' ∧ X.M.d = M.d
theorem openBad_any (p:Value) (slots:Int) (w:World) (h:slots < 0 ∨ 4096 < slots):Calls Tryz.prog 8 #[p,.int .i64 slots] w (RetP w (.tuple #[.pointer none,.int .i64 131])):=by
  by_cases h0:slots < 0
  · go_enter Tryz.func8,Tryz.ntmps8
    go_wp2
    go_ret2
    exact ⟨rfl,rfl⟩
  · have h1:slots > 4096:=by omega
    go_enter Tryz.func8,Tryz.ntmps8
    go_wp2
    go_ret2
    exact ⟨rfl,rfl⟩
set_option maxRecDepth 100000 in
set_option maxHeartbeats 4000000 in
theorem open0_any (B:Nat) (M:DM) (room:Int) (n:Nat) (w:World) (h:DkAt B M (S.fresh room) w) (hr:0 ≤ room ∧ room ≤ 1073741824) (hn:n ≤ 4096) :
    Calls Tryz.prog 8 #[.pointer (some ⟨M.d,0,none⟩),.int .i64 n] w (RetBorn B M room n w):=by
  obtain ⟨b1,b2,b3,b4,b5⟩:=S.born_facts hr.1
  have HLO:=Lib.hid (logOpen0_any B M (S.fresh room) (S.born room) 0 w h (S.fresh_fit hr) (by omega) b2 b3 b1)
  have HF:=Lib.hid (S.born_fit hr)
  have HNO:=Lib.hid b4
  have HIN:=Lib.hid (b5 n hn)
  obtain ⟨C,hC,hmk⟩:=makeBools n (by omega)
  have hmm:=@run_makeMap Tryz.prog
  have g0:¬ (n:Int) < 0:=by omega
  have g1:¬ (n:Int) > 4096:=by omega
  clear h b1 b2 b3 b4 b5 hr
  go_enter Tryz.func8,Tryz.ntmps8
  go_wp2_with fail
  refine HLO.out.mono ?_
  rintro e w1 ⟨l,M1,rfl,hl1,hw1,hm1⟩
  have HL1:=Lib.hid hl1
  have HW1:=Lib.hid hw1
  have HM1:=Lib.hid hm1
  clear hl1 hw1 hm1 HLO
  go_upto_region 7 with fail
  obtain ⟨W1,hW1⟩:∃ W1,w1.alloc (.map #[] 0) = W1:=⟨_,rfl⟩
  have hs1:W1.heap.size = w1.heap.size + 1:=by rw [← hW1]; exact World.size_alloc ..
  have hm0:W1.ownsMap Tryz.prog 9 S.intR w1.heap.size 0 (.map []):=by rw [← hW1]; exact World.ownsMap_made w1 Tryz.prog 9 S.intR
  have hb1:Below w1.heap.size w1 W1:=by rw [← hW1]; exact (Below.refl _ _).alloc (Nat.le_refl _) _
  rw [hW1]
  obtain ⟨W2,hW2⟩:∃ W2,W1.alloc (.cells C 4) = W2:=⟨_,rfl⟩
  have hs2:W2.heap.size = w1.heap.size + 1 + 1:=by rw [← hW2,← hs1]; exact World.size_alloc ..
  have hg2:Blk W2 (w1.heap.size + 1) C 4:=by rw [← hW2,← hs1]; exact Blk.new W1 _ _
  have hb2:Below W1.heap.size W1 W2:=by rw [← hW2]; exact (Below.refl _ _).alloc (Nat.le_refl _) _
  rw [hW2]
  obtain ⟨W3,hW3⟩:∃ W3,W2.alloc (.cells #[.pointer (some ⟨M.d,0,none⟩),.pointer (some ⟨l,0,none⟩),.map (some w1.heap.size),.slice (some ⟨w1.heap.size + 1,0,none⟩) n n] 87) = W3:=⟨_,rfl⟩
  have hk3:Blk W3 (w1.heap.size + 1 + 1) #[.pointer (some ⟨M.d,0,none⟩),.pointer (some ⟨l,0,none⟩),.map (some w1.heap.size),.slice (some ⟨w1.heap.size + 1,0,none⟩) n n] 87:=by rw [← hW3,← hs2]; exact Blk.new W2 _ _
  have hb3:Below W2.heap.size W2 W3:=by rw [← hW3]; exact (Below.refl _ _).alloc (Nat.le_refl _) _
  rw [hW3]
  have hb23:=below_then hb2.size hb2 hb3
  have hb13:=below_then hb1.size hb1 hb23
  have hmk3:W3.ownsMap Tryz.prog 9 S.intR w1.heap.size 0 (.map []):=hm0.kept (show W1.grownBy W3 none from ⟨hb23.os,hb23.tape,hb23.output,hb23.size,fun k hk _=>hb23.block k hk⟩) (by simp)
  have hg3:Blk W3 (w1.heap.size + 1) C 4:=hg2.below hb3
  obtain ⟨hst,hwt⟩:=StAt.new HL1.out hb13 (tb:=w1.heap.size) (g:=w1.heap.size + 1) (st:=w1.heap.size + 1 + 1) (n:=n) (Nat.le_refl _) (by omega) (by omega) hmk3 hC (S.marks_len n []) hn hg3 (by rw [HM1.out]; exact hk3)
  have HS3:=Lib.hid hst
  have HW3:=Lib.hid (HW1.out.trans hwt)
  clear hmk hst hwt hg3 hmk3 hb13 hb23 hb3 hk3 hb2 hg2 hs2 hb1 hm0 hs1 hW1 hW2 hW3 HL1 HW1 hC g0 g1
  obtain ⟨X,hX⟩:∃ X:SM,X = ⟨M1,w1.heap.size + 1 + 1,l,w1.heap.size,some ⟨w1.heap.size + 1,0,none⟩,n⟩:=⟨_,rfl⟩
  rw [← hX] at HS3 HW3
  have e1:w1.heap.size + 1 + 1 = X.st:=by rw [hX]
  have e2:l = X.lg:=by rw [hX]
  have e3:M1 = X.M:=by rw [hX]
  rw [e1,e2]
  rw [e3] at HM1
  clear hX e1 e2 e3
  go_wp2_with fail
  go_loopw [46] (fun i wr=>i = .int .i64 0 ∧ wr = W3) (fun _ _=>0)
  case atStart=>exact ⟨rfl,rfl⟩
  case round =>
    obtain ⟨rfl,rfl⟩:=hrel
    go_upto_region 15 with fail
    obtain ⟨W4,hW4⟩:∃ W4,wr.alloc (.map #[] 0) = W4:=⟨_,rfl⟩
    have HU4:=Lib.hid (World.ownsMap_made wr Tryz.prog 9 (unitElem (H:=Unit)))
    have hb4:Below wr.heap.size wr W4:=by rw [← hW4]; exact (Below.refl _ _).alloc (Nat.le_refl _) _
    rw [hW4] at HU4 ⊢
    have HS4:=Lib.hid (HS3.out.below hb4)
    have HW4:=Lib.hid (HW3.out.trans (Went.below hb4 _))
    have hkp:wr.heap.size < W4.heap.size:=by rw [← hW4,World.size_alloc]; omega
    have HKP:=Lib.hid hkp
    clear hW4 hb4 HS3 HW3 hkp
    generalize wr.heap.size = kp at *
    have HID:=Lib.hid (ids_any B X _ W4 HS4.out List.Pairwise.nil (by show 0 ≤ _; omega))
    have tl:=tab_len HS4.out.tab
    obtain ⟨y0,y1,y2,y3⟩:=HS4.out.cells
    clear y0 y1 y3
    dsimp only [List.length_nil] at tl
    go_wp2_with fail
    clear tl y2
    refine HID.out.mono ?_
    rintro e w5 ⟨A5,c5,rfl,hr5,hb5⟩
    have HU5:=Lib.hid (HU4.out.kept (show W4.grownBy w5 none from ⟨hb5.os,hb5.tape,hb5.output,hb5.size,fun k hk _=>hb5.block k hk⟩) (by simp))
    have HS5:=Lib.hid (HS4.out.below hb5)
    have HW5:=Lib.hid (HW4.out.trans (Went.below hb5 _))
    clear hr5 hb5 HU4 HS4 HW4 HID HKP
    dsimp only [S.Sto.ids,List.map_nil,List.length_nil]
    go_wp2_with fail
    go_loopw [77] (fun i wr=>i = .int .i64 0 ∧ wr = w5) (fun _ _=>0)
    case atStart=>exact ⟨rfl,rfl⟩
    case round =>
      obtain ⟨rfl,rfl⟩:=hrel
      obtain ⟨wo,rfl⟩:∃ wo:World,wo = wr:=⟨_,rfl⟩
      have HLI:=Lib.hid (dlist_any B X.M _ wo HS5.out.log.disk HF.out.ok (Nat.le_trans HF.out.now (by omega)))
      rw [HM1.out] at HLI
      have tl:=tab_len HS5.out.tab
      obtain ⟨y0,y1,y2,y3⟩:=HS5.out.cells
      clear y0 y1 y3
      dsimp only [List.length_nil] at tl
      go_wp2_with fail
      clear tl y2
      refine HLI.out.mono ?_
      rintro e w6 ⟨A6,c6,rfl,hr6,hb6⟩
      have HU6:=Lib.hid (HU5.out.kept (show wo.grownBy w6 none from ⟨hb6.os,hb6.tape,hb6.output,hb6.size,fun k hk _=>hb6.block k hk⟩) (by simp))
      have HS6:=Lib.hid (HS5.out.below hb6)
      have HW6:=Lib.hid (HW5.out.trans (Went.below hb6 _))
      have HR6:=Lib.hid hr6.rd
      clear hr6 hb6 HU5 HS5 HW5 HLI
      obtain ⟨ns,hns⟩:∃ ns,(S.born room).list = ns:=⟨_,rfl⟩
      rw [hns] at HR6 HNO ⊢
      have hnl:ns.length ≤ 3:=by
        rw [← hns]
        have:=HF.out.now
        have h2:(S.born room).list.length ≤ (S.born room).now.length:=by unfold D.Dsk.list; split <;> simp
        omega
      clear hns
      go_wp2_with fail
      go_loopw [125] (fun i wr=>∃ k:Nat,k ≤ ns.length ∧ i = .int .i64 k ∧ Below w6.heap.size w6 wr) (fun i _=>ns.length - (intOf i).toNat)
      case atStart=>exact ⟨0,Nat.zero_le _,rfl,Below.refl _ _⟩
      case round =>
        obtain ⟨k,hk,rfl,hb7⟩:=hrel
        have HB7:=Lib.hid hb7
        obtain ⟨wp,rfl⟩:∃ wp:World,wp = wr:=⟨_,rfl⟩
        by_cases hlt:k < ns.length
        · obtain ⟨b,o,rfl,hbl,y0⟩:=(HR6.out.below hb7).str hlt rfl
          obtain ⟨hO,hsz⟩:=HNO.out (ns[k]'hlt) (List.getElem_mem hlt)
          have hlk:=unit_none (HU6.out.kept (show w6.grownBy wp none from ⟨hb7.os,hb7.tape,hb7.output,hb7.size,fun k hk _=>hb7.block k hk⟩) (by simp)) (ns[k]'hlt) (by simp only [maxLen]; omega)
          have HIO:=Lib.hid (fun u=>isO_any (ns[k]'hlt) u)
          rw [hO] at HIO
          clear hO hsz hb7
          generalize ns[k]'hlt = nm at *
          go_wp2_with fail
          refine (HIO.out _).mono ?_
          rintro e w8 ⟨rfl,rfl⟩
          have HB8:=Lib.hid (HB7.out.alloc HB7.out.size (.cells #[] 92):Below w6.heap.size w6 (wp.alloc (.cells #[] 92)))
          clear hlk HIO y0
          go_wp2
          go_roundw
          case rel=>exact ⟨k + 1,by omega,by go_num,HB8.out⟩
          case measure=>simp [intOf]; omega
        · have hke:k = ns.length:=by omega
          subst hke
          have HS8:=Lib.hid (HS6.out.below hb7)
          have HW8:=Lib.hid (HW6.out.trans (Went.below hb7 _))
          have HTI:=Lib.hid (tidy_any B X _ 3 wp HS8.out HF.out (by omega) List.Pairwise.nil (by show 0 ≤ _; omega) (fun _ h=>by cases h) (by show 0 ≤ _; omega))
          clear hb7 HB7 HS6 HW6 HU6 HR6 HNO
          go_wp2_with fail
          refine HTI.out.mono ?_
          rintro e w9 ⟨rfl,X9,hs9,hw9,hst9,hd9,hlg9⟩
          have htd:(⟨S.born room,0,[],S.marks n []⟩:S.Sto).tidy = ⟨S.born room,0,[],S.marks n []⟩:=by
            unfold S.Sto.tidy
            rw [if_pos (by show 0 ≤ _; omega)]
          rw [htd] at hs9 hw9
          have HS9:=Lib.hid hs9
          have HW9:=Lib.hid (HW8.out.trans hw9)
          have HD9:=Lib.hid (hd9.trans HM1.out)
          rw [← hst9]
          clear hs9 hw9 hd9 hlg9 hst9 HTI HS8 HW8 htd
          go_wp2
          go_ret2
          exact ⟨X9,rfl,HS9.out,HW9.out,HD9.out⟩
end Go.Proofs.YtkempjcphpnocaaGreatDoor
namespace Go.Proofs.YtkempjcphpnocaaGreatDoor
open Go Go.RowKit Go.Maps
set_option maxRecDepth 100000 in
set_option maxHeartbeats 4000000 in
theorem ssound_any (B:Nat) (X:SM) (s:S.Sto) (id:ByteArray) (no m:Nat) (w:World) (h:StAt B X s w) (hf:D.Fit m s.d) (hm:m ≤ 268435456) (hu:s.used.length ≤ 4096) (ht:Tabs w) :
    Calls Tryz.prog 31 #[.pointer (some ⟨X.st,0,none⟩),.string id,.int .i64 no] w (RetB w (S.sound s.d s.used.length (id,no))):=by
  obtain ⟨y0,y1,y2,y3⟩:=h.cells
  by_cases hlt:no < s.used.length
  rotate_left
  · have hG:S.sound s.d s.used.length (id,no) = false:=by unfold S.sound; rw [decide_eq_false hlt]; rfl
    have hi:(no:Int) ≥ s.used.length:=by omega
    rw [hG]
    clear h hf hG
    go_enter Tryz.func31,Tryz.ntmps31
    go_wp2
    go_ret
    exact ⟨rfl,Below.refl _ _⟩
  have HRD:=Lib.hid (sread_any B X s no m w h hf hm (by omega) ht)
  have hS:S.sound s.d s.used.length (id,no) = match S.read s.d no with | some E=>decide (S.idOf E = id) | none=>false:=by
    unfold S.sound
    rw [decide_eq_true hlt,Bool.true_and]
    rfl
  have hlens:∀ E,S.read s.d no = some E → E.k.size ≤ 1073741824 ∧ E.v.size ≤ 1073741824:=fun E hE=>by
    unfold S.read at hE
    split at hE
    · cases hE
    · obtain ⟨_,_,_,l1,l2⟩:=O.dec_lens hE
      have:(s.d.read (S.path no)).1.length ≤ 1073741824:=by
        unfold D.Dsk.read
        split
        · exact Nat.zero_le _
        split
        · exact Nat.zero_le _
        split
        · exact Nat.zero_le _
        · exact hf.size _
      omega
  rw [hS]
  have hi:¬ (no:Int) ≥ s.used.length:=by omega
  clear hS h hf
  generalize S.read s.d no = R at *
  go_enter Tryz.func31,Tryz.ntmps31
  go_wp2_with fail
  refine HRD.out.mono ?_
  rintro e w1 ⟨A,c,Xb,dd,rfl,hr1,hr2,hb1⟩
  have HB1:=Lib.hid hb1
  clear hr1 hr2 hb1 HRD y0 y1 y2 y3
  cases R with
  | none =>
    have HB2:=Lib.hid (below_then HB1.out.size HB1.out ((Below.refl w1.heap.size w1).alloc (Nat.le_refl _) (.cells #[.string O.Ent.zero.k,.string O.Ent.zero.v,.int .i64 O.Ent.zero.s,.string O.Ent.zero.r,.int .i64 O.Ent.zero.m,.slice A O.Ent.zero.fs.length c,.slice Xb O.Ent.zero.body.length dd,.int .i64 O.Ent.zero.asked,.int .i64 O.Ent.zero.got] 28)))
    dsimp only [Option.getD,Option.isSome]
    unfold entV
    go_wp2
    go_ret
    exact ⟨rfl,HB2.out⟩
  | some E =>
    obtain ⟨lk,lv⟩:=hlens E rfl
    have hbe:Below w1.heap.size w1 (w1.alloc (.cells #[.string E.k,.string E.v,.int .i64 E.s,.string E.r,.int .i64 E.m,.slice A E.fs.length c,.slice Xb E.body.length dd,.int .i64 E.asked,.int .i64 E.got] 28)):=(Below.refl _ _).alloc (Nat.le_refl _) _
    have HB2:=Lib.hid (below_then HB1.out.size HB1.out hbe)
    have HI:=Lib.hid (id_any E.k E.v (w1.alloc (.cells #[.string E.k,.string E.v,.int .i64 E.s,.string E.r,.int .i64 E.m,.slice A E.fs.length c,.slice Xb E.body.length dd,.int .i64 E.asked,.int .i64 E.got] 28)) lk lv)
    clear hlens hbe
    dsimp only [Option.getD,Option.isSome]
    unfold entV
    go_wp2_with fail
    refine HI.out.mono ?_
    rintro e w2 ⟨rfl,hb2⟩
    have HB3:=Lib.hid (below_then HB2.out.size HB2.out hb2)
    have HID:Hid (((E.k ++ ⟨#[10]⟩ ++ E.v).toList == id.toList) = decide (S.idOf E = id)):=Lib.hid (beq_bytes _ _)
    clear hb2 HI
    generalize E.k ++ ⟨#[10]⟩ ++ E.v = z at HID ⊢
    go_wp2
    go_ret
    exact ⟨ret_bool HID.out,HB3.out⟩
namespace D
def uent (p:ByteArray × Nat):Lit × DataW Unit:=(key p.1,.agg [])
def datU (l:NM):DataW Unit:=.map (l.map uent)
theorem insert_mapU (nm:ByteArray) (no:Nat):∀ l:NM,DataW.insert (uent (nm,no)) (l.map uent) = (ins l nm no).map uent
  | []=>rfl
  | p :: r=>by
    have e:(uent (nm,no)).1.before (uent p).1 = ltB nm p.1:=ltB_before _ _
    rw [List.map_cons]
    unfold DataW.insert ins
    rw [e]
    split
    · rfl
    · rw [List.map_cons,insert_mapU nm no r]
theorem datU_del (l:NM) (nm:ByteArray):(datU l).del (key nm) = datU (del l nm):=by
  unfold datU DataW.del D.del
  dsimp only
  congr 1
  rw [List.filter_map]
  congr 1
  apply List.filter_congr
  intro p _
  show (!((uent p).1.sameKey (key nm))) = _
  unfold uent
  dsimp only
  rw [same_key]
  simp
theorem datU_put (l:NM) (nm:ByteArray) (no:Nat):(datU l).put (key nm) (.agg []) = datU (put l nm no):=by
  have h:=datU_del l nm
  unfold datU DataW.del at h
  dsimp only at h
  have h2:(l.map uent).filter (fun p=>!p.1.sameKey (key nm)) = (del l nm).map uent:=by injection h
  unfold datU DataW.put
  dsimp only
  rw [h2]
  exact congrArg DataW.map (insert_mapU nm no (del l nm))
theorem datU_has (l:NM) (nm:ByteArray):Maps.has (datU l) (key nm) = (find l nm).isSome:=by
  unfold datU
  rw [Maps.has_eq,Bool.eq_iff_iff,List.any_eq_true]
  constructor
  · rintro ⟨p,hp,hk⟩
    obtain ⟨q,hq,rfl⟩:=List.mem_map.1 hp
    have:q.1 = nm:=by
      have:(key q.1).sameKey (key nm) = true:=hk
      rw [same_key] at this
      exact of_decide_eq_true this
    cases hf:find l nm with
    | some _=>rfl
    | none=>exact absurd this (find_none hf q hq)
  · intro h
    obtain ⟨no,hno⟩:=Option.isSome_iff_exists.1 h
    exact ⟨_,List.mem_map_of_mem (find_mem hno),by show (key nm).sameKey (key nm) = true; rw [same_key]; simp⟩
end D
abbrev unitE:=unitElem (H:=Unit)
theorem unit_ok {b n:Nat} {w:World} {l:D.NM} (h:w.ownsMap Tryz.prog 9 unitE b n (D.datU l)) (nm:ByteArray) (hs:nm.size ≤ maxLen) :
    (Instr.lookup 90 (.map (some b)) (.string nm) true).run Tryz.prog w = .ok (.tuple #[.agg #[],.bool (D.find l nm).isSome]) w:=by
  obtain ⟨v,ps,hr,hv⟩:=h.look_ok (string_keyed strT_ul) unT_ul (zeroUnit w) (zd:=.agg []) (zp:=[]) unitElem_mk (nmKey nm hs)
  obtain ⟨rfl,_⟩:=unitElem_inv hv
  rw [D.datU_has] at hr
  exact hr
theorem unit_tight {b n:Nat} {w:World} {l:D.NM} (h:w.ownsMap Tryz.prog 9 unitE b n (D.datU l)):w.ownsMap Tryz.prog 9 unitE b l.length (D.datU l):=by
  obtain ⟨es,cl,hb,F,hs,hD⟩:=h
  refine ⟨es,cl,hb,F,?_,hD⟩
  have h1:=congrArg Maps.size hD
  unfold D.datU at h1
  rw [Maps.size_eq,Maps.size_eq,length_sorted] at h1
  simp at h1
  omega
theorem StAt.other {B kb:Nat} {X:SM} {s:S.Sto} {w w':World} (h:StAt B X s w) (hM:MapB w kb) (h1:kb ≠ X.M.mN) (h2:kb ≠ X.M.mS) (h3:kb ≠ X.tb) (hg:w.grownBy w' (some kb)):StAt B X s w':=by
  have hw:Went (fun k=>k = kb) w (fun k=>k = kb) w':=Went.grown hg (fun k e=>(by simpa using e.symm)) (fun k hk=>.inl hk)
  have hb:∀ {k t},Tag w k t → k ≠ kb:=fun ht=>ht.map hM
  obtain ⟨⟨a1,a2,a3,a4,a5,a6,a7,a8,a9,a10⟩,b2,b3⟩:=h.log
  exact ⟨⟨⟨hw.blk a1 (hb a1.tag),hw.map a2 (fun e=>h1 e.symm),hw.map a3 (fun e=>h2 e.symm),a4,hw.row a5 (fun k hk=>hb (a5.tag hk)),
    a6.imp (fun c v hc=>hc.kept hg (fun k t e ht=>by cases e; exact absurd rfl (hb ht))),hw.row a7 (fun k hk=>hb (a7.tag hk)),
    fun no hn=>⟨hw.blk (a8 no hn).blk (hb (a8 no hn).blk.tag),hw.row (a8 no hn).row (fun k hk=>hb ((a8 no hn).row.tag hk)),(a8 no hn).ge⟩,a9,a10⟩,hw.blk b2 (hb b2.tag),b3⟩,hw.blk h.blk (hb h.blk.tag),hw.map h.tab (fun e=>h3 e.symm),h.ne,hw.row h.used (fun k hk=>hb (h.used.tag hk)),h.ge⟩
namespace S
theorem tabOf_len (rs:List R.Rc):(tabOf rs).length ≤ rs.length:=by
  have:∀ (rs:List R.Rc) (t:D.NM),(rs.foldl tstep t).length ≤ t.length + rs.length:=by
    intro rs
    induction rs with
    | nil=>intro t; exact Nat.le_refl _
    | cons r rs ih =>
      intro t
      have h1:=ih (tstep t r)
      have h2:(tstep t r).length ≤ t.length + 1:=by
        unfold tstep
        split
        · exact D.length_put _ _ _
        · have:=D.length_del t r.id; omega
      rw [List.foldl_cons,List.length_cons]
      omega
  have h:=this rs []
  rw [List.length_nil,Nat.zero_add] at h
  exact h
theorem tabOf_up (rs:List R.Rc):D.Up (tabOf rs):=by
  have:∀ (rs:List R.Rc) (t:D.NM),D.Up t → D.Up (rs.foldl tstep t):=by
    intro rs
    induction rs with
    | nil=>exact fun _ h=>h
    | cons r rs ih =>
      intro t ht
      refine ih _ ?_
      unfold tstep
      split
      · exact D.up_put ht _ _
      · exact D.up_del ht _
  exact this rs [] List.Pairwise.nil
theorem tabOf_id {rs:List R.Rc} {z:Nat} (h:∀ r ∈ rs,r.id.size ≤ z):∀ p ∈ tabOf rs,p.1.size ≤ z:=by
  have:∀ (rs:List R.Rc) (t:D.NM),(∀ r ∈ rs,r.id.size ≤ z) → (∀ p ∈ t,p.1.size ≤ z) → ∀ p ∈ rs.foldl tstep t,p.1.size ≤ z:=by
    intro rs
    induction rs with
    | nil=>exact fun _ _ h=>h
    | cons r rs ih =>
      intro t hr ht
      refine ih _ (fun x hx=>hr x (List.mem_cons_of_mem _ hx)) (fun p hp=>?_)
      unfold tstep at hp
      split at hp
      · rcases D.mem_put.1 hp with rfl | hp
        · exact hr r (by simp)
        · exact ht p hp.1
      · exact ht p (D.mem_del.1 hp).1
  exact this rs [] h (fun _ h=>by cases h)
theorem tabOf_next {rs:List R.Rc} {j:Nat} (h:j < rs.length):tabOf (rs.take (j + 1)) = tstep (tabOf (rs.take j)) rs[j]:=by
  rw [List.take_succ_eq_append_getElem h,tabOf_snoc]
def mid (f:ByteArray × Nat → Bool) (t:D.NM) (j:Nat):D.NM:=(t.take j).filter f ++ t.drop j
theorem mid_sub (f:ByteArray × Nat → Bool) (t:D.NM) (j:Nat):(mid f t j).Sublist t:=by
  have h:=List.Sublist.append (List.filter_sublist (p:=f) (l:=t.take j)) (List.Sublist.refl (t.drop j))
  rw [List.take_append_drop] at h
  exact h
theorem mid_up {f:ByteArray × Nat → Bool} {t:D.NM} (h:D.Up t) (j:Nat):D.Up (mid f t j):=List.Pairwise.sublist (mid_sub f t j) h
theorem mid_all (f:ByteArray × Nat → Bool) (t:D.NM):mid f t t.length = t.filter f:=by
  unfold mid
  rw [List.take_length,List.drop_length,List.append_nil]
theorem mid_keep {f:ByteArray × Nat → Bool} {t:D.NM} {j:Nat} (h:j < t.length) (hf:f t[j] = true):mid f t (j + 1) = mid f t j:=by
  unfold mid
  rw [List.take_succ_eq_append_getElem h,List.filter_append,List.drop_eq_getElem_cons h]
  simp [hf]
theorem mid_drop {f:ByteArray × Nat → Bool} {t:D.NM} {j:Nat} (hu:D.Up t) (h:j < t.length) (hf:f t[j] = false):mid f t (j + 1) = D.del (mid f t j) t[j].1:=by
  have e1:mid f t j = (t.take j).filter f ++ t[j] :: t.drop (j + 1):=by unfold mid; rw [List.drop_eq_getElem_cons h]
  have e2:mid f t (j + 1) = (t.take j).filter f ++ t.drop (j + 1):=by
    unfold mid
    rw [List.take_succ_eq_append_getElem h,List.filter_append]
    simp [hf]
  have hm:=mid_up (f:=f) hu j
  rw [e1] at hm
  rw [e1,e2]
  obtain ⟨h1,h2,h3⟩:=List.pairwise_append.1 hm
  obtain ⟨h4,_⟩:=List.pairwise_cons.1 h2
  have ne:∀ {a b:ByteArray},D.ltB a b = true → a ≠ b:=fun h9 e=>by rw [e,D.lt_irrefl] at h9; cases h9
  unfold D.del
  rw [List.filter_append,List.filter_cons]
  have g1:((t.take j).filter f).filter (fun p=>decide (p.1 ≠ t[j].1)) = (t.take j).filter f:=List.filter_eq_self.2 (fun p hp=>decide_eq_true (ne (h3 p hp _ List.mem_cons_self)))
  have g2:(t.drop (j + 1)).filter (fun p=>decide (p.1 ≠ t[j].1)) = t.drop (j + 1):=List.filter_eq_self.2 (fun p hp=>decide_eq_true (fun e=>ne (h4 p hp) e.symm))
  rw [g1,g2]
  simp
theorem mid_find {f:ByteArray × Nat → Bool} {t:D.NM} {j:Nat} (hu:D.Up t) (h:j < t.length):D.find (mid f t j) t[j].1 = some t[j].2:=by
  refine D.mem_find (mid_up hu j) ?_
  unfold mid
  rw [List.drop_eq_getElem_cons h]
  exact List.mem_append.2 (.inr List.mem_cons_self)
theorem filter_next {f:ByteArray × Nat → Bool} {t:D.NM} {j:Nat} (h:j < t.length):(t.take (j + 1)).filter f = (t.take j).filter f ++ if f t[j] = true then [t[j]] else []:=by
  rw [List.take_succ_eq_append_getElem h,List.filter_append]
  congr 1
  rw [List.filter_cons]
  rfl
def keeps (t:D.NM):D.NM:=t.foldl (fun k p=>D.put k (path p.2) 0) []
theorem keeps_snoc (t:D.NM) (p:ByteArray × Nat):keeps (t ++ [p]) = D.put (keeps t) (path p.2) 0:=by
  unfold keeps
  rw [List.foldl_append]
  rfl
theorem keeps_len:∀ (t:D.NM),(keeps t).length ≤ t.length:=by
  have:∀ (t k:D.NM),(t.foldl (fun k p=>D.put k (path p.2) 0) k).length ≤ k.length + t.length:=by
    intro t
    induction t with
    | nil=>intro k; exact Nat.le_refl _
    | cons p t ih =>
      intro k
      have h1:=ih (D.put k (path p.2) 0)
      have h2:=D.length_put k (path p.2) 0
      rw [List.foldl_cons,List.length_cons]
      omega
  intro t
  have:=this t []
  simpa [keeps] using this
theorem keeps_has (nm:ByteArray):∀ (t:D.NM),(D.find (keeps t) nm).isSome = t.any fun p=>decide (path p.2 = nm):=by
  have:∀ (t k:D.NM),(D.find (t.foldl (fun k p=>D.put k (path p.2) 0) k) nm).isSome = ((D.find k nm).isSome || t.any fun p=>decide (path p.2 = nm)):=by
    intro t
    induction t with
    | nil=>intro k; simp
    | cons p t ih =>
      intro k
      rw [List.foldl_cons,ih,D.find_put,List.any_cons]
      by_cases h:nm = path p.2
      · rw [if_pos h,decide_eq_true h.symm]
        simp
      · rw [if_neg h,decide_eq_false (fun e=>h e.symm),Bool.false_or]
  intro t
  exact this t []
def swept (t:D.NM) (l:List ByteArray) (d:D.Dsk):D.Dsk:=l.foldl (fun d nm=>if (t.all fun p=>decide (path p.2 ≠ nm)) && isO nm then (d.remove nm).1 else d) d
theorem swept_next (t:D.NM) {l:List ByteArray} {j:Nat} (h:j < l.length) (d:D.Dsk):swept t (l.take (j + 1)) d = if (t.all fun p=>decide (path p.2 ≠ l[j])) && isO l[j] then ((swept t (l.take j) d).remove l[j]).1 else swept t (l.take j) d:=by
  unfold swept
  rw [List.take_succ_eq_append_getElem h,List.foldl_append]
  rfl
theorem swept_fit {t:D.NM}:∀ (l:List ByteArray) {m:Nat} {d:D.Dsk},D.Fit m d → D.Fit (m + l.length) (swept t l d)
  | [],_,_,h=>h
  | nm :: l,m,d,h=>by
    have h2:D.Fit (m + 1) (if (t.all fun p=>decide (path p.2 ≠ nm)) && isO nm then (d.remove nm).1 else d):=by
      split
      · exact h.remove nm
      · exact h.mono (Nat.le_succ m)
    have:=swept_fit (t:=t) l h2
    rw [List.length_cons,show m + (l.length + 1) = m + 1 + l.length by omega]
    exact this
theorem all_any (t:D.NM) (nm:ByteArray):(t.all fun p=>decide (path p.2 ≠ nm)) = !(t.any fun p=>decide (path p.2 = nm)):=by
  induction t with
  | nil=>rfl
  | cons p t ih =>
    rw [List.all_cons,List.any_cons,ih]
    by_cases h:path p.2 = nm <;> simp [h]
end S
end Go.Proofs.YtkempjcphpnocaaGreatDoor
