/- The walks of the store's read, Get and free (printed by gen/stog.py). Conditions: what the disk's steps ask; the library's tables. -/
import Derived.Test.YtkempjcphpnocaaGreatDoorZ18
import Derived.Test.YtkempjcphpnocaaGreatDoorZ07
import Derived.Test.YtkempjcphpnocaaGreatDoorZ25
import Derived.Test.YtkempjcphpnocaaGreatDoorObjB
namespace Go.Proofs.YtkempjcphpnocaaGreatDoor
open Go Go.RowKit Go.Maps
def entV (E:O.Ent) (A:Option Addr) (c:Nat) (X:Option Addr) (d:Nat):Value:=.agg #[.string E.k,.string E.v,.int .i64 E.s,.string E.r,.int .i64 E.m,.slice A E.fs.length c,.slice X E.body.length d,.int .i64 E.asked,.int .i64 E.got]
def RetGet (w:World) (x:Option O.Ent) (e:Ending) (w':World):Prop :=
  ∃ (A:Option Addr) (c:Nat) (X:Option Addr) (d:Nat),e = .returned (.tuple #[entV (x.getD O.Ent.zero) A c X d,.bool x.isSome]) ∧
    Row w' w.heap.size 167 2 A (x.getD O.Ent.zero).fs.length c (fcells (x.getD O.Ent.zero).fs) ∧ Row w' w.heap.size 5 1 X (x.getD O.Ent.zero).body.length d (bcells (x.getD O.Ent.zero).body) ∧ Below w.heap.size w w'
theorem RetGet.none_ {w w':World} {v:Value} (hv:v = entV O.Ent.zero none 0 none 0) (hb:Below w.heap.size w w'):RetGet w none (.returned (.tuple #[v,.bool false])) w' :=
  ⟨none,0,none,0,by rw [hv]; rfl,Row.none_ _ _ _ _,Row.none_ _ _ _ _,hb⟩
def Tabs (w:World):Prop:=LibOk w ∧ ErrOk w ∧ TabOk w
theorem Tabs.below {w w':World} (h:Tabs w) (hb:Below w.heap.size w w'):Tabs w':=⟨h.1.below hb,h.2.1.below hb,h.2.2.below hb⟩
set_option maxRecDepth 100000 in
set_option maxHeartbeats 4000000 in
theorem sread_any (B:Nat) (X:SM) (s:S.Sto) (no m:Nat) (w:World) (h:StAt B X s w) (hf:D.Fit m s.d) (hm:m ≤ 268435456) (hn:no < 4096) (ht:Tabs w) :
    Calls Tryz.prog 48 #[.pointer (some ⟨X.st,0,none⟩),.int .i64 no] w (RetGet w (S.read s.d no)):=by
  have HD:=Lib.hid h
  have HTB:=Lib.hid ht
  have HP:=Lib.hid (fun u=>path_any no u hn)
  have HF:=Lib.hid hf
  have HS:=Lib.hid (hf.sml hm)
  have hps:=path_small no
  obtain ⟨G,hG⟩:∃ G,S.read s.d no = G:=⟨_,rfl⟩
  have HG:Hid (G = if (s.d.read (S.path no)).2 ≠ 0 then none else O.dec (s.d.read (S.path no)).1):=Lib.hid hG.symm
  rw [hG]
  generalize S.path no = nm at *
  have hsz:(s.d.read nm).1.length ≤ 1073741824:=by
    have:=hf.size
    unfold D.Dsk.read D.Dsk.size at *
    split
    · exact Nat.zero_le _
    · split
      · exact Nat.zero_le _
      · split
        · exact Nat.zero_le _
        · exact this _
  have HRD:=Lib.hid (fun (u:World) (hb:Below w.heap.size w u)=>read_any B X.M s.d nm u (h.below hb).log.disk (hf.sml hm) hf.ok hps)
  obtain ⟨R,hR⟩:∃ R,s.d.read nm = R:=⟨_,rfl⟩
  rw [hR] at HRD HG hsz
  obtain ⟨bs,code⟩:=R
  dsimp only at HG hsz
  have HK0:=Lib.hid (Blk.new w #[.string ⟨#[]⟩,.string ⟨#[]⟩,.int .i64 0,.string ⟨#[]⟩,.int .i64 0,.slice none 0 0,.slice none 0 0,.int .i64 0,.int .i64 0] 28)
  have HB0:=Lib.hid ((Below.refl w.heap.size w).alloc (Nat.le_refl _) (.cells #[.string ⟨#[]⟩,.string ⟨#[]⟩,.int .i64 0,.string ⟨#[]⟩,.int .i64 0,.slice none 0 0,.slice none 0 0,.int .i64 0,.int .i64 0] 28))
  clear h hf ht hG hR hps
  go_enter Tryz.func48,Tryz.ntmps48
  go_upto_region 1 with fail
  obtain ⟨w0,hw0⟩:∃ w0,w.alloc (.cells #[.string ⟨#[]⟩,.string ⟨#[]⟩,.int .i64 0,.string ⟨#[]⟩,.int .i64 0,.slice none 0 0,.slice none 0 0,.int .i64 0,.int .i64 0] 28) = w0:=⟨_,rfl⟩
  rw [hw0] at HK0 HB0 ⊢
  clear hw0
  have hS0:Below w.heap.size w w0.drew ∧ Blk w0.drew w.heap.size #[.string ⟨#[]⟩,.string ⟨#[]⟩,.int .i64 0,.string ⟨#[]⟩,.int .i64 0,.slice none 0 0,.slice none 0 0,.int .i64 0,.int .i64 0] 28:=⟨HB0.out.drew,HK0.out.drew⟩
  clear HB0 HK0
  refine wp_region_noPanic ?_
  refine HT.begin (n:=11) (S:=(fun u=>Below w.heap.size w u ∧ Blk u w.heap.size #[.string ⟨#[]⟩,.string ⟨#[]⟩,.int .i64 0,.string ⟨#[]⟩,.int .i64 0,.slice none 0 0,.slice none 0 0,.int .i64 0,.int .i64 0] 28)) (by kernel_rfl) hS0 ?_
  generalize w0.drew = wd at *
  refine HT.take 0 (.pointer (some ⟨X.st,0,none⟩)) rfl (by kernel_rfl) (fun _ _ _ h=>h) (Or.inl ⟨by rfl,?_⟩) (?_:HT _ _ _ _ _ _ _ ⟨#[.pointer (some ⟨X.st,0,none⟩),.int .i64 no,_,_,_,_,_,_,_,_,.pointer (some ⟨X.st,0,none⟩),_,_,_,_,_,_,_,_,_,_,_,_,_,_,_,_,_,_,_],[]⟩ _)
  · intro u hu
    go_simp
  refine HT.take 1 (.pointer (some ⟨X.st,0,none⟩)) rfl (by kernel_rfl) (fun _ _ _ h=>h) (Or.inl ⟨by rfl,?_⟩) (?_:HT _ _ _ _ _ _ _ ⟨#[.pointer (some ⟨X.st,0,none⟩),.int .i64 no,_,_,_,_,_,_,_,_,.pointer (some ⟨X.st,0,none⟩),.pointer (some ⟨X.st,0,none⟩),_,_,_,_,_,_,_,_,_,_,_,_,_,_,_,_,_,_],[]⟩ _)
  · intro u hu
    go_simp
  refine HT.take 2 (.pointer (some ⟨X.st,0,none⟩)) rfl (by kernel_rfl) (fun _ _ _ h=>h) (Or.inl ⟨by rfl,?_⟩) (?_:HT _ _ _ _ _ _ _ ⟨#[.pointer (some ⟨X.st,0,none⟩),.int .i64 no,_,_,_,_,_,_,_,_,.pointer (some ⟨X.st,0,none⟩),.pointer (some ⟨X.st,0,none⟩),.pointer (some ⟨X.st,0,none⟩),_,_,_,_,_,_,_,_,_,_,_,_,_,_,_,_,_],[]⟩ _)
  · intro u hu
    go_simp
  refine HT.take 3 (.pointer (some ⟨X.M.d,0,none⟩)) rfl (by kernel_rfl) (fun _ _ _ h=>h) (Or.inl ⟨by rfl,?_⟩) (?_:HT _ _ _ _ _ _ _ ⟨#[.pointer (some ⟨X.st,0,none⟩),.int .i64 no,_,_,_,_,_,_,_,_,.pointer (some ⟨X.st,0,none⟩),.pointer (some ⟨X.st,0,none⟩),.pointer (some ⟨X.st,0,none⟩),.pointer (some ⟨X.M.d,0,none⟩),_,_,_,_,_,_,_,_,_,_,_,_,_,_,_,_],[]⟩ _)
  · intro u hu
    obtain ⟨y0,y1,y2,y3⟩:=(HD.out.below hu.1).cells
    go_simp
  refine HT.take 4 (.int .i64 no) rfl (by kernel_rfl) (fun _ _ _ h=>h) (Or.inl ⟨by rfl,?_⟩) (?_:HT _ _ _ _ _ _ _ ⟨#[.pointer (some ⟨X.st,0,none⟩),.int .i64 no,_,_,_,_,_,_,_,_,.pointer (some ⟨X.st,0,none⟩),.pointer (some ⟨X.st,0,none⟩),.pointer (some ⟨X.st,0,none⟩),.pointer (some ⟨X.M.d,0,none⟩),.int .i64 no,_,_,_,_,_,_,_,_,_,_,_,_,_,_,_],[]⟩ _)
  · intro u hu
    go_simp
  refine HT.step 5 rfl (by kernel_rfl) (fun hS K hK=>?_)
  go_simp
  refine (HP.out _).mono ?_
  rintro e w5 ⟨rfl,hb⟩
  refine hK.out _ _ ⟨below_then hS.1.size hS.1 hb,hS.2.below hb⟩ ?_
  clear hK hS hb
  refine HT.step 6 rfl (by kernel_rfl) (fun hS K hK=>?_)
  go_simp
  refine (HRD.out _ hS.1).mono ?_
  rintro e w2 ⟨A2,c2,rfl,hr2,hb⟩
  dsimp only at hr2 ⊢
  refine hK.out _ _ ⟨below_then hS.1.size hS.1 hb,hS.2.below hb⟩ ?_
  have HR2:=Lib.hid hr2.rd
  have hc2:=hr2.cap.1
  clear hK hS hb hr2
  refine HT.take 7 (.tuple #[.slice A2 bs.length c2,.int .i64 code]) rfl (by kernel_rfl) (fun _ _ _ h=>h) (Or.inl ⟨by rfl,?_⟩) (?_:HT _ _ _ _ _ _ _ ⟨#[.pointer (some ⟨X.st,0,none⟩),.int .i64 no,_,_,_,_,_,_,_,.tuple #[.slice A2 bs.length c2,.int .i64 code],.pointer (some ⟨X.st,0,none⟩),.pointer (some ⟨X.st,0,none⟩),.pointer (some ⟨X.st,0,none⟩),.pointer (some ⟨X.M.d,0,none⟩),.int .i64 no,.string nm,.tuple #[.slice A2 bs.length c2,.int .i64 code],_,_,_,_,_,_,_,_,_,_,_,_,_],[]⟩ _)
  · intro u hu
    go_simp
  refine HT.take 8 (.slice A2 bs.length c2) rfl (by kernel_rfl) (fun _ _ _ h=>h) (Or.inl ⟨by rfl,?_⟩) (?_:HT _ _ _ _ _ _ _ ⟨#[.pointer (some ⟨X.st,0,none⟩),.int .i64 no,_,_,_,_,_,_,_,.tuple #[.slice A2 bs.length c2,.int .i64 code],.pointer (some ⟨X.st,0,none⟩),.pointer (some ⟨X.st,0,none⟩),.pointer (some ⟨X.st,0,none⟩),.pointer (some ⟨X.M.d,0,none⟩),.int .i64 no,.string nm,.tuple #[.slice A2 bs.length c2,.int .i64 code],.slice A2 bs.length c2,_,_,_,_,_,_,_,_,_,_,_,_],[]⟩ _)
  · intro u hu
    go_simp
  refine HT.take 9 (.int .i64 code) rfl (by kernel_rfl) (fun _ _ _ h=>h) (Or.inl ⟨by rfl,?_⟩) (?_:HT _ _ _ _ _ _ _ ⟨#[.pointer (some ⟨X.st,0,none⟩),.int .i64 no,_,_,_,_,_,_,_,.tuple #[.slice A2 bs.length c2,.int .i64 code],.pointer (some ⟨X.st,0,none⟩),.pointer (some ⟨X.st,0,none⟩),.pointer (some ⟨X.st,0,none⟩),.pointer (some ⟨X.M.d,0,none⟩),.int .i64 no,.string nm,.tuple #[.slice A2 bs.length c2,.int .i64 code],.slice A2 bs.length c2,.int .i64 code,_,_,_,_,_,_,_,_,_,_,_],[]⟩ _)
  · intro u hu
    go_simp
  refine HT.take 10 (.slice A2 bs.length c2) rfl (by kernel_rfl) (fun _ _ _ h=>h) (Or.inl ⟨by rfl,?_⟩) (?_:HT _ _ _ _ _ _ _ ⟨#[.pointer (some ⟨X.st,0,none⟩),.int .i64 no,_,_,_,_,.slice A2 bs.length c2,_,_,.tuple #[.slice A2 bs.length c2,.int .i64 code],.pointer (some ⟨X.st,0,none⟩),.pointer (some ⟨X.st,0,none⟩),.pointer (some ⟨X.st,0,none⟩),.pointer (some ⟨X.M.d,0,none⟩),.int .i64 no,.string nm,.tuple #[.slice A2 bs.length c2,.int .i64 code],.slice A2 bs.length c2,.int .i64 code,_,_,_,_,_,_,_,_,_,_,_],[]⟩ _)
  · intro u hu
    go_simp
  refine HT.tail _ rfl rfl (by kernel_rfl) (fun hS=>?_)
  have HB2:=Lib.hid hS.1
  have HK2:=Lib.hid hS.2
  clear hS hS0 HRD
  by_cases hcd:code = 0
  rotate_left
  · have hcb:(code != 0) = true:=by simpa using hcd
    rw [if_pos hcd] at HG
    obtain ⟨a0,a1,a2,a3,a4,a5,a6,a7,a8⟩:=HK2.out.cells9
    obtain ⟨g0,g1,g2,g3,g4,g5,g6,g7,g8⟩:=HK2.out.free9
    go_wp2
    refine NoPanic.normal ?_
    go_wp2
    obtain ⟨z0,z1,z2,z3,z4,z5,z6,z7,z8⟩:=(HK2.out.set9 (.string ⟨#[]⟩) (.string ⟨#[]⟩) (.int .i64 0) (.string ⟨#[]⟩) (.int .i64 0) (.slice none 0 0) (.slice none 0 0) (.int .i64 0) (.int .i64 0)).cells9
    unfold nine at z0 z1 z2 z3 z4 z5 z6 z7 z8
    refine bodyPost_ret (v:=.tuple #[.agg #[.string ⟨#[]⟩,.string ⟨#[]⟩,.int .i64 0,.string ⟨#[]⟩,.int .i64 0,.slice none 0 0,.slice none 0 0,.int .i64 0,.int .i64 0],.bool false]) (by simp [results,Tryz.results48,go_sem,z0,z1,z2,z3,z4,z5,z6,z7,z8]) rfl ?_
    rw [HG.out]
    exact RetGet.none_ rfl (below_nine HB2.out (Nat.le_refl _) _ _ _ _ _ _ _ _ _)
  subst hcd
  rw [if_neg (by simp)] at HG
  have HDE:=Lib.hid (odecode_any A2 c2 bs w2 hsz hc2 HR2.out (HTB.out.below HB2.out).1 (HTB.out.below HB2.out).2.1 (HTB.out.below HB2.out).2.2)
  go_wp2
  refine NoPanic.normal ?_
  go_wp2_with fail
  refine HDE.out.mono ?_
  rintro e w3 (⟨E,A3,c3,X3,d3,hd,rfl,hr3,hx3,hb3⟩ | ⟨hd,rfl,hb3⟩)
  · have HG3:=Lib.hid (HG.out.trans hd)
    have HB4:=Lib.hid ((below_then HB2.out.size HB2.out hb3).alloc (Nat.le_trans HB2.out.size hb3.size) (.cells #[.string E.k,.string E.v,.int .i64 E.s,.string E.r,.int .i64 E.m,.slice A3 E.fs.length c3,.slice X3 E.body.length d3,.int .i64 E.asked,.int .i64 E.got] 28))
    have HK4:=Lib.hid ((HK2.out.below hb3).alloc (.cells #[.string E.k,.string E.v,.int .i64 E.s,.string E.r,.int .i64 E.m,.slice A3 E.fs.length c3,.slice X3 E.body.length d3,.int .i64 E.asked,.int .i64 E.got] 28))
    have HN4:=Lib.hid (Blk.new w3 #[.string E.k,.string E.v,.int .i64 E.s,.string E.r,.int .i64 E.m,.slice A3 E.fs.length c3,.slice X3 E.body.length d3,.int .i64 E.asked,.int .i64 E.got] 28)
    have HF4:=Lib.hid ((hr3.mono HB2.out.size).alloc (.cells #[.string E.k,.string E.v,.int .i64 E.s,.string E.r,.int .i64 E.m,.slice A3 E.fs.length c3,.slice X3 E.body.length d3,.int .i64 E.asked,.int .i64 E.got] 28))
    have HX4:=Lib.hid ((hx3.mono HB2.out.size).alloc (.cells #[.string E.k,.string E.v,.int .i64 E.s,.string E.r,.int .i64 E.m,.slice A3 E.fs.length c3,.slice X3 E.body.length d3,.int .i64 E.asked,.int .i64 E.got] 28))
    clear hb3 hd HDE HG HB2 HK2 HR2 hr3 hx3
    go_upto_region 5 with fail
    generalize w3.alloc (.cells #[.string E.k,.string E.v,.int .i64 E.s,.string E.r,.int .i64 E.m,.slice A3 E.fs.length c3,.slice X3 E.body.length d3,.int .i64 E.asked,.int .i64 E.got] 28) = w4 at *
    generalize w3.heap.size = b4 at *
    obtain ⟨x0,x1,x2,x3,x4,x5,x6,x7,x8⟩:=HN4.out.cells9
    obtain ⟨a0,a1,a2,a3,a4,a5,a6,a7,a8⟩:=HK4.out.cells9
    obtain ⟨g0,g1,g2,g3,g4,g5,g6,g7,g8⟩:=HK4.out.free9
    go_wp2
    obtain ⟨z0,z1,z2,z3,z4,z5,z6,z7,z8⟩:=(HK4.out.set9 (.string E.k) (.string E.v) (.int .i64 E.s) (.string E.r) (.int .i64 E.m) (.slice A3 E.fs.length c3) (.slice X3 E.body.length d3) (.int .i64 E.asked) (.int .i64 E.got)).cells9
    unfold nine at z0 z1 z2 z3 z4 z5 z6 z7 z8
    refine bodyPost_ret (v:=.tuple #[.agg #[.string E.k,.string E.v,.int .i64 E.s,.string E.r,.int .i64 E.m,.slice A3 E.fs.length c3,.slice X3 E.body.length d3,.int .i64 E.asked,.int .i64 E.got],.bool true]) (by simp [results,Tryz.results48,go_sem,z0,z1,z2,z3,z4,z5,z6,z7,z8]) rfl ?_
    rw [HG3.out]
    exact ⟨A3,c3,X3,d3,rfl,HF4.out.farT9 HK4.out neEF _ _ _ _ _ _ _ _ _,HX4.out.farT9 HK4.out neEU _ _ _ _ _ _ _ _ _,below_nine HB4.out (Nat.le_refl _) _ _ _ _ _ _ _ _ _⟩
  · have HG3:=Lib.hid (HG.out.trans hd)
    have HB4:=Lib.hid ((below_then HB2.out.size HB2.out hb3).alloc (Nat.le_trans HB2.out.size hb3.size) (.cells #[.string ⟨#[]⟩,.string ⟨#[]⟩,.int .i64 0,.string ⟨#[]⟩,.int .i64 0,.slice none 0 0,.slice none 0 0,.int .i64 0,.int .i64 0] 28))
    have HK4:=Lib.hid ((HK2.out.below hb3).alloc (.cells #[.string ⟨#[]⟩,.string ⟨#[]⟩,.int .i64 0,.string ⟨#[]⟩,.int .i64 0,.slice none 0 0,.slice none 0 0,.int .i64 0,.int .i64 0] 28))
    have HN4:=Lib.hid (Blk.new w3 #[.string ⟨#[]⟩,.string ⟨#[]⟩,.int .i64 0,.string ⟨#[]⟩,.int .i64 0,.slice none 0 0,.slice none 0 0,.int .i64 0,.int .i64 0] 28)
    clear hb3 hd HDE HG HB2 HK2 HR2
    go_upto_region 5 with fail
    generalize w3.alloc (.cells #[.string ⟨#[]⟩,.string ⟨#[]⟩,.int .i64 0,.string ⟨#[]⟩,.int .i64 0,.slice none 0 0,.slice none 0 0,.int .i64 0,.int .i64 0] 28) = w4 at *
    generalize w3.heap.size = b4 at *
    obtain ⟨x0,x1,x2,x3,x4,x5,x6,x7,x8⟩:=HN4.out.cells9
    obtain ⟨a0,a1,a2,a3,a4,a5,a6,a7,a8⟩:=HK4.out.cells9
    obtain ⟨g0,g1,g2,g3,g4,g5,g6,g7,g8⟩:=HK4.out.free9
    go_wp2
    obtain ⟨z0,z1,z2,z3,z4,z5,z6,z7,z8⟩:=(HK4.out.set9 (.string ⟨#[]⟩) (.string ⟨#[]⟩) (.int .i64 0) (.string ⟨#[]⟩) (.int .i64 0) (.slice none 0 0) (.slice none 0 0) (.int .i64 0) (.int .i64 0)).cells9
    unfold nine at z0 z1 z2 z3 z4 z5 z6 z7 z8
    refine bodyPost_ret (v:=.tuple #[.agg #[.string ⟨#[]⟩,.string ⟨#[]⟩,.int .i64 0,.string ⟨#[]⟩,.int .i64 0,.slice none 0 0,.slice none 0 0,.int .i64 0,.int .i64 0],.bool false]) (by simp [results,Tryz.results48,go_sem,z0,z1,z2,z3,z4,z5,z6,z7,z8]) rfl ?_
    rw [HG3.out]
    exact RetGet.none_ rfl (below_nine HB4.out (Nat.le_refl _) _ _ _ _ _ _ _ _ _)
set_option maxRecDepth 100000 in
set_option maxHeartbeats 4000000 in
theorem sget_any (B:Nat) (X:SM) (s:S.Sto) (id:ByteArray) (m:Nat) (w:World) (h:StAt B X s w) (hf:D.Fit m s.d) (hm:m ≤ 268435456) (hn:∀ p ∈ s.tab,p.2 < 4096) (hi:id.size ≤ 1099511627776) (ht:Tabs w) :
    Calls Tryz.prog 13 #[.pointer (some ⟨X.st,0,none⟩),.string id] w (RetGet w (s.get id)):=by
  have HD:=Lib.hid h
  have HTB:=Lib.hid ht
  have HG:Hid (s.get id = match D.find s.tab id with | none=>none | some no=>S.read s.d no):=Lib.hid rfl
  have HRD:=Lib.hid (fun (no:Nat) (u:World) (hb:Below w.heap.size w u) (hno:no < 4096)=>sread_any B X s no m u (h.below hb) hf hm hno (ht.below hb))
  have hno:∀ no,D.find s.tab id = some no → no < 4096:=fun no hfd=>hn _ (D.find_mem hfd)
  have HK0:=Lib.hid (Blk.new w #[.string ⟨#[]⟩,.string ⟨#[]⟩,.int .i64 0,.string ⟨#[]⟩,.int .i64 0,.slice none 0 0,.slice none 0 0,.int .i64 0,.int .i64 0] 28)
  have hb0:Below w.heap.size w (w.alloc (.cells #[.string ⟨#[]⟩,.string ⟨#[]⟩,.int .i64 0,.string ⟨#[]⟩,.int .i64 0,.slice none 0 0,.slice none 0 0,.int .i64 0,.int .i64 0] 28)):=(Below.refl _ _).alloc (Nat.le_refl _) _
  have HB0:=Lib.hid hb0
  have hlk:=tab_ok (HD.out.below hb0).tab id (by simp only [maxLen]; omega)
  obtain ⟨y0,y1,y2,y3⟩:=(HD.out.below hb0).cells
  clear h hf ht hb0 y0 y1 y3
  go_enter Tryz.func13,Tryz.ntmps13
  go_upto_region 1 with fail
  obtain ⟨w0,hw0⟩:∃ w0,w.alloc (.cells #[.string ⟨#[]⟩,.string ⟨#[]⟩,.int .i64 0,.string ⟨#[]⟩,.int .i64 0,.slice none 0 0,.slice none 0 0,.int .i64 0,.int .i64 0] 28) = w0:=⟨_,rfl⟩
  rw [hw0] at HK0 HB0 hlk y2 ⊢
  clear hw0
  cases hfd:D.find s.tab id with
  | none =>
    rw [hfd] at hlk HG
    simp only [Option.getD_none,Option.isSome_none] at hlk
    obtain ⟨a0,a1,a2,a3,a4,a5,a6,a7,a8⟩:=HK0.out.cells9
    obtain ⟨g0,g1,g2,g3,g4,g5,g6,g7,g8⟩:=HK0.out.free9
    go_wp2
    obtain ⟨z0,z1,z2,z3,z4,z5,z6,z7,z8⟩:=(HK0.out.set9 (.string ⟨#[]⟩) (.string ⟨#[]⟩) (.int .i64 0) (.string ⟨#[]⟩) (.int .i64 0) (.slice none 0 0) (.slice none 0 0) (.int .i64 0) (.int .i64 0)).cells9
    unfold nine at z0 z1 z2 z3 z4 z5 z6 z7 z8
    refine bodyPost_ret (v:=.tuple #[.agg #[.string ⟨#[]⟩,.string ⟨#[]⟩,.int .i64 0,.string ⟨#[]⟩,.int .i64 0,.slice none 0 0,.slice none 0 0,.int .i64 0,.int .i64 0],.bool false]) (by simp [results,Tryz.results13,go_sem,z0,z1,z2,z3,z4,z5,z6,z7,z8]) rfl ?_
    rw [HG.out]
    exact RetGet.none_ rfl (below_nine HB0.out (Nat.le_refl _) _ _ _ _ _ _ _ _ _)
  | some no =>
    rw [hfd] at hlk HG
    simp only [Option.getD_some,Option.isSome_some] at hlk
    have HR0:=Lib.hid (HRD.out no w0 HB0.out (hno no hfd))
    clear hno hfd HRD
    go_wp2_with fail
    refine HR0.out.mono ?_
    rintro e w3 ⟨A3,c3,X3,d3,rfl,hr3,hx3,hb3⟩
    unfold entV
    have hrd:S.read s.d no = s.get id:=HG.out.symm
    rw [hrd] at hr3 hx3 ⊢
    obtain ⟨F,hF⟩:∃ F,(s.get id).getD O.Ent.zero = F:=⟨_,rfl⟩
    obtain ⟨ok,hok⟩:∃ ok,(s.get id).isSome = ok:=⟨_,rfl⟩
    have HFE:=Lib.hid hF
    have HOK:=Lib.hid hok
    rw [hF] at hr3 hx3 ⊢
    rw [hok]
    have HB3:=Lib.hid (below_then HB0.out.size HB0.out hb3)
    have HK3:=Lib.hid (HK0.out.below hb3)
    have HF3:=Lib.hid (hr3.mono HB0.out.size)
    have HX3:=Lib.hid (hx3.mono HB0.out.size)
    clear hb3 hr3 hx3 HR0 HB0 HK0 hlk y2 hrd hF hok HG
    obtain ⟨a0,a1,a2,a3,a4,a5,a6,a7,a8⟩:=HK3.out.cells9
    obtain ⟨g0,g1,g2,g3,g4,g5,g6,g7,g8⟩:=HK3.out.free9
    go_wp2
    obtain ⟨z0,z1,z2,z3,z4,z5,z6,z7,z8⟩:=(HK3.out.set9 (.string F.k) (.string F.v) (.int .i64 F.s) (.string F.r) (.int .i64 F.m) (.slice A3 F.fs.length c3) (.slice X3 F.body.length d3) (.int .i64 F.asked) (.int .i64 F.got)).cells9
    unfold nine at z0 z1 z2 z3 z4 z5 z6 z7 z8
    refine bodyPost_ret (v:=.tuple #[.agg #[.string F.k,.string F.v,.int .i64 F.s,.string F.r,.int .i64 F.m,.slice A3 F.fs.length c3,.slice X3 F.body.length d3,.int .i64 F.asked,.int .i64 F.got],.bool ok]) (by simp [results,Tryz.results13,go_sem,z0,z1,z2,z3,z4,z5,z6,z7,z8]) rfl ?_
    exact ⟨A3,c3,X3,d3,by unfold entV; rw [HFE.out,HOK.out],by rw [HFE.out]; exact HF3.out.farT9 HK3.out neEF _ _ _ _ _ _ _ _ _,by rw [HFE.out]; exact HX3.out.farT9 HK3.out neEU _ _ _ _ _ _ _ _ _,below_nine HB3.out (Nat.le_refl _) _ _ _ _ _ _ _ _ _⟩
end Go.Proofs.YtkempjcphpnocaaGreatDoor
