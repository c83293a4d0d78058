/- The walk of the disk's Append (printed by gen/disk3.py). Conditions: names, files and data of at most 2^40 bytes, at most 2^40 steps, names, files; the sum of the sizes within 2^60. The walks of swaplog's first: steps up to the first that answers an error; over three and over four steps (printed by gen/first9.py). Conditions: what the steps' own contracts ask. -/
import Derived.Test.YtkempjcphpnocaaGreatDoorZ06
namespace Go.Proofs.YtkempjcphpnocaaGreatDoor
open Go Go.RowKit Go.Maps
set_option maxHeartbeats 4000000 in
theorem append_any (B:Nat) (M:DM) (s:D.Dsk) (nm:ByteArray) (A:Option Addr) (n c:Nat) (l:List UInt8) (w:World) (h:DkAt B M s w) (hs:s.Sml) (ok:s.Ok) (hu:s.used ≤ 1152921504606846976) (hrm:0 ≤ s.room ∧ s.room ≤ 1152921504606846976) (hn:nm.size ≤ 1099511627776)
    (hl:l.length = n) (hln:n ≤ 1099511627776) (hx:Rd w A n 1 (bcells l)) (hA:0 < n → ∀ a,A = some a → ¬ M.foot s a.block) :
    Calls Tryz.prog 68 #[.pointer (some ⟨M.d,0,none⟩),.string nm,.slice A n c] w (RetStep B M s w (s.append nm l)):=by
  have HON:=Lib.hid (on_any B M s nm none 0 0 0 [] w (fun u hg=>h.below (grown_below hg)) ⟨hs.n0,hs.n⟩ hs.fails (by omega) rfl (fun x hx=>by rw [List.mem_singleton.1 hx]; exact hn) (Row.none_ _ _ _ _) (Nat.zero_le _))
  obtain ⟨G,hG⟩:∃ G,s.append nm l = G:=⟨_,rfl⟩
  have HG:Hid (G = match s.look nm [] with | (s1,_,some no)=>(if 0 < l.length ∧ s1.room < (s1.used:Int) + l.length then (s1,92) else (s1.wrote no l,0)) | (s1,e,none)=>(s1,e)):=Lib.hid (by rw [← hG]; exact D.Dsk.on_look ..)
  rw [hG]
  have HX:=Lib.hid hx
  have HA:=Lib.hid hA
  clear hG h hx hA
  go_enter Tryz.func68,Tryz.ntmps68
  go_wp2_with fail
  refine HON.out.mono ?_
  rintro e w2 ⟨rfl,u,hg,hd2,hs2⟩
  have hst:=(Stepped.below (grown_below hg):Stepped M s w M s u).trans hs2
  have HX2:=Lib.hid (hst.rd HX.out HA.out)
  have HS2:=Lib.hid hst
  clear hg hs2 HON HX HA hst
  rcases s.look_or nm [] with ⟨k,e,hlk,he⟩ | ⟨k,no,hlk,hf⟩
  · rw [hlk] at hd2 HS2 HG
    rw [hlk]
    have HD2:=Lib.hid hd2
    have heb:(e == 0) = false:=beq_eq_false_iff_ne.2 he
    clear hd2 hlk
    go_wp2
    go_ret
    exact ⟨by rw [HG.out]; rfl,M,by rw [HG.out]; exact HD2.out,by rw [HG.out]; exact HS2.out⟩
  rw [hlk] at hd2 HS2 HG
  rw [hlk]
  have hno:=D.find_lt ok hf
  have okn:({ s with n:=k }:D.Dsk).Ok:=⟨ok.lens,ok.upN,ok.upS,ok.inN,ok.inS,ok.inP,ok.fold,ok.firms⟩
  have hsz:=hs.size no
  have HG2:Hid (G = if 0 < l.length ∧ s.room < (s.used:Int) + l.length then (({ s with n:=k }:D.Dsk),(92:Int)) else (({ s with n:=k }:D.Dsk).wrote no l,0)):=HG
  clear HG hlk hf
  dsimp only [D.ptrOf]
  have hss:∀ no,({ s with n:=k }:D.Dsk).size no ≤ 1099511627776:=hs.size
  have hno2:no < ({ s with n:=k }:D.Dsk).data.length:=hno
  have hsz2:({ s with n:=k }:D.Dsk).size no ≤ 1099511627776:=hs.size no
  have hu2:({ s with n:=k }:D.Dsk).used ≤ 1152921504606846976:=hu
  have HG3:Hid (G = if 0 < l.length ∧ ({ s with n:=k }:D.Dsk).room < ((({ s with n:=k }:D.Dsk).used:Nat):Int) + l.length then (({ s with n:=k }:D.Dsk),(92:Int)) else (({ s with n:=k }:D.Dsk).wrote no l,0)):=HG2
  have hrm2:0 ≤ ({ s with n:=k }:D.Dsk).room ∧ ({ s with n:=k }:D.Dsk).room ≤ 1152921504606846976:=hrm
  clear HG2 hsz hno hu hrm
  generalize ({ s with n:=k }:D.Dsk) = T at *
  have HD2:=Lib.hid hd2
  have HOK:=Lib.hid okn
  have HSS:=Lib.hid hss
  clear hd2 okn hss
  by_cases h0:n = 0
  · have hl0:l = []:=List.eq_nil_of_length_eq_zero (by omega)
    subst hl0
    subst h0
    rw [if_neg (by simp)] at HG3
    go_upto_region 4 with fail
    go_region
    have HD3:=Lib.hid (HD2.out.below (Below.refl _ _).drew)
    have HS3:Hid (Stepped M s w M T w2.drew):=Lib.hid (HS2.out.trans (Stepped.below (Below.refl _ _).drew))
    have HX3:Hid (Rd w2.drew A 0 1 (bcells [])):=Lib.hid HX2.out.drew
    clear HD2 HS2 HX2
    generalize w2.drew = w3 at *
    have z1:w3.cell? ⟨M.fa no,1,none⟩ = some (.slice (M.da no) (T.size no) (M.dc no)):=(HD3.out.files no hno2).blk.cell 1 rfl
    have hB3:B ≤ w3.heap.size:=HD3.out.base
    go_wp2_with (at_builtin; refine appB _ rfl _ _ rfl B (M.da no) (T.size no) (M.dc no) (T.data.getD no []) rfl (HD3.out.files no hno2).row _ 0 _ [] rfl HX3.out (by omega) hB3 ?_; intro A1 c1 w4 hr4 ha4; have hF4:=(HD3.out.files no hno2).blk.keptG ha4.grown (fun e=>((HD3.out.files no hno2).row.tag e).ne (HD3.out.files no hno2).blk.tag (by decide) rfl); have f4:=hF4.free 1; have g4:w4.cell? ⟨M.fa no,1,none⟩ = some (.slice (M.da no) (T.size no) (M.dc no)):=hF4.cell 1 rfl)
    go_ret
    exact ⟨by rw [HG3.out]; rfl,_,by rw [HG3.out]; exact HD3.out.wrote hno2 ha4 hr4,by rw [HG3.out]; exact HS3.out.trans (Stepped.wrote hno2 ha4)⟩
  have hnp:0 < n:=Nat.pos_of_ne_zero h0
  have hnpi:(n:Int) > 0:=by omega
  have hS0:DkAt B M T w2.drew ∧ Below w2.heap.size w2 w2.drew:=⟨HD2.out.below (Below.refl _ _).drew,(Below.refl _ _).drew⟩
  have hsum:((T.used:Int) + n) ≤ 4611686018427387904:=by omega
  have hwr:IntKind.i64.wrap ((T.used:Int) + n) = (T.used:Int) + n:=by rw [IntKind.wrap_i64]; omega
  by_cases hfull:T.room < (T.used:Int) + n
  · rw [if_pos (by rw [hl]; exact ⟨hnp,hfull⟩)] at HG3
    have hfi:((T.used:Int) + n > T.room):=by omega
    go_upto_region 4 with fail
    refine wp_region_noPanic ?_
    refine HT.begin (n:=14) (S:=(fun u=>DkAt B M T u ∧ Below w2.heap.size w2 u)) (by kernel_rfl) hS0 ?_
    generalize w2.drew = wd at *
    refine HT.take 0 (.slice A n c) rfl (by kernel_rfl) (fun _ _ _ h=>h) (Or.inl ⟨by rfl,?_⟩) (?_:HT _ _ _ _ _ _ _ ⟨#[_,_,_,_,_,_,_,_,_,_,_,_,_,_,_,_,_,_,.slice A n c,_,_,_,_,_,_,_,_,_,_,_,_,_,_,_,_,_,_,_,_,_,_,_],[]⟩ _)
    · intro u hu
      go_simp
    refine HT.take 1 (.int .i64 n) rfl (by kernel_rfl) (fun _ _ _ h=>h) (Or.inl ⟨by rfl,?_⟩) (?_:HT _ _ _ _ _ _ _ ⟨#[_,_,_,_,_,_,_,_,_,_,_,_,_,_,_,_,_,_,.slice A n c,.int .i64 n,_,_,_,_,_,_,_,_,_,_,_,_,_,_,_,_,_,_,_,_,_,_],[]⟩ _)
    · intro u hu
      go_simp
    refine HT.take 2 (.bool true) rfl (by kernel_rfl) (fun _ _ _ h=>h) (Or.inl ⟨by rfl,?_⟩) (?_:HT _ _ _ _ _ _ _ ⟨#[_,_,_,_,_,_,_,_,_,_,_,_,_,_,_,_,_,_,.slice A n c,.int .i64 n,.bool true,_,_,_,_,_,_,_,_,_,_,_,_,_,_,_,_,_,_,_,_,_],[]⟩ _)
    · intro u hu
      go_simp
    refine HT.take 3 (.bool true) rfl (by kernel_rfl) (fun _ _ _ h=>h) (Or.inl ⟨by rfl,?_⟩) (?_:HT _ _ _ _ _ _ _ ⟨#[_,_,_,_,_,_,_,_,_,_,_,_,_,_,_,_,_,_,.slice A n c,.int .i64 n,.bool true,.bool true,_,_,_,_,_,_,_,_,_,_,_,_,_,_,_,_,_,_,_,_],[]⟩ _)
    · intro u hu
      go_simp
    refine HT.take 4 (.pointer (some ⟨M.d,0,none⟩)) rfl (by kernel_rfl) (fun _ _ _ h=>h) (Or.inl ⟨by rfl,?_⟩) (?_:HT _ _ _ _ _ _ _ ⟨#[_,_,_,_,_,_,_,_,_,_,_,_,_,_,_,_,_,_,.slice A n c,.int .i64 n,.bool true,.bool true,.pointer (some ⟨M.d,0,none⟩),_,_,_,_,_,_,_,_,_,_,_,_,_,_,_,_,_,_,_],[]⟩ _)
    · intro u hu
      go_simp
    refine HT.take 6 (.slice A n c) rfl (by kernel_rfl) (fun _ _ _ h=>h) (Or.inl ⟨by rfl,?_⟩) (?_:HT _ _ _ _ _ _ _ ⟨#[_,_,_,_,_,_,_,_,_,_,_,_,_,_,_,_,_,_,.slice A n c,.int .i64 n,.bool true,.bool true,.pointer (some ⟨M.d,0,none⟩),_,.slice A n c,_,_,_,_,_,_,_,_,_,_,_,_,_,_,_,_,_],[]⟩ _)
    · intro u hu
      go_simp
    refine HT.take 7 (.int .i64 n) rfl (by kernel_rfl) (fun _ _ _ h=>h) (Or.inl ⟨by rfl,?_⟩) (?_:HT _ _ _ _ _ _ _ ⟨#[_,_,_,_,_,_,_,_,_,_,_,_,_,_,_,_,_,_,.slice A n c,.int .i64 n,.bool true,.bool true,.pointer (some ⟨M.d,0,none⟩),_,.slice A n c,.int .i64 n,_,_,_,_,_,_,_,_,_,_,_,_,_,_,_,_],[]⟩ _)
    · intro u hu
      go_simp
    refine HT.take 9 (.pointer (some ⟨M.d,0,none⟩)) rfl (by kernel_rfl) (fun _ _ _ h=>h) (Or.inl ⟨by rfl,?_⟩) (?_:HT _ _ _ _ _ _ _ ⟨#[_,_,_,_,_,_,_,_,_,_,_,_,_,_,_,_,_,_,.slice A n c,.int .i64 n,.bool true,.bool true,.pointer (some ⟨M.d,0,none⟩),_,.slice A n c,.int .i64 n,_,.pointer (some ⟨M.d,0,none⟩),_,_,_,_,_,_,_,_,_,_,_,_,_,_],[]⟩ _)
    · intro u hu
      go_simp
    refine HT.take 10 (.pointer (some ⟨M.d,0,none⟩)) rfl (by kernel_rfl) (fun _ _ _ h=>h) (Or.inl ⟨by rfl,?_⟩) (?_:HT _ _ _ _ _ _ _ ⟨#[_,_,_,_,_,_,_,_,_,_,_,_,_,_,_,_,_,_,.slice A n c,.int .i64 n,.bool true,.bool true,.pointer (some ⟨M.d,0,none⟩),_,.slice A n c,.int .i64 n,_,.pointer (some ⟨M.d,0,none⟩),.pointer (some ⟨M.d,0,none⟩),_,_,_,_,_,_,_,_,_,_,_,_,_],[]⟩ _)
    · intro u hu
      go_simp
    refine HT.take 11 (.pointer (some ⟨M.d,4,none⟩)) rfl (by kernel_rfl) (fun _ _ _ h=>h) (Or.inl ⟨by rfl,?_⟩) (?_:HT _ _ _ _ _ _ _ ⟨#[_,_,_,_,_,_,_,_,_,_,_,_,_,_,_,_,_,_,.slice A n c,.int .i64 n,.bool true,.bool true,.pointer (some ⟨M.d,0,none⟩),_,.slice A n c,.int .i64 n,_,.pointer (some ⟨M.d,0,none⟩),.pointer (some ⟨M.d,0,none⟩),.pointer (some ⟨M.d,4,none⟩),_,_,_,_,_,_,_,_,_,_,_,_],[]⟩ _)
    · intro u hu
      go_simp
    refine HT.take 12 (.int .i64 T.room) rfl (by kernel_rfl) (fun _ _ _ h=>h) (Or.inl ⟨by rfl,?_⟩) (?_:HT _ _ _ _ _ _ _ ⟨#[_,_,_,_,_,_,_,_,_,_,_,_,_,_,_,_,_,_,.slice A n c,.int .i64 n,.bool true,.bool true,.pointer (some ⟨M.d,0,none⟩),_,.slice A n c,.int .i64 n,_,.pointer (some ⟨M.d,0,none⟩),.pointer (some ⟨M.d,0,none⟩),.pointer (some ⟨M.d,4,none⟩),.int .i64 T.room,_,_,_,_,_,_,_,_,_,_,_],[]⟩ _)
    · intro u hu
      obtain ⟨y0,y1,y2,y3,y4,y5,y6,y7⟩:=hu.1.cells
      go_simp
    refine HT.step 5 rfl (by kernel_rfl) (fun hS K hK=>?_)
    go_simp
    refine (used_any B M T _ hS.1 HSS.out HOK.out hu2).mono ?_
    rintro e w5 ⟨rfl,hb⟩
    refine hK.out _ _ ⟨hS.1.below hb,below_then hS.2.size hS.2 hb⟩ ?_
    clear hK hS hb
    refine HT.take 8 (.int .i64 ((T.used:Int) + n)) rfl (by kernel_rfl) (fun _ _ _ h=>h) (Or.inl ⟨by rfl,?_⟩) (?_:HT _ _ _ _ _ _ _ ⟨#[_,_,_,_,_,_,_,_,_,_,_,_,_,_,_,_,_,_,.slice A n c,.int .i64 n,.bool true,.bool true,.pointer (some ⟨M.d,0,none⟩),.int .i64 T.used,.slice A n c,.int .i64 n,.int .i64 ((T.used:Int) + n),.pointer (some ⟨M.d,0,none⟩),.pointer (some ⟨M.d,0,none⟩),.pointer (some ⟨M.d,4,none⟩),.int .i64 T.room,_,_,_,_,_,_,_,_,_,_,_],[]⟩ _)
    · intro u hu
      go_simp
    refine HT.take 13 (.bool true) rfl (by kernel_rfl) (fun _ _ _ h=>h) (Or.inl ⟨by rfl,?_⟩) (?_:HT _ _ _ _ _ _ _ ⟨#[_,_,_,_,_,_,_,_,_,_,_,_,_,_,_,_,_,_,.slice A n c,.int .i64 n,.bool true,.bool true,.pointer (some ⟨M.d,0,none⟩),.int .i64 T.used,.slice A n c,.int .i64 n,.int .i64 ((T.used:Int) + n),.pointer (some ⟨M.d,0,none⟩),.pointer (some ⟨M.d,0,none⟩),.pointer (some ⟨M.d,4,none⟩),.int .i64 T.room,.bool true,_,_,_,_,_,_,_,_,_,_],[]⟩ _)
    · intro u hu
      go_simp
    refine HT.tail _ rfl rfl (by kernel_rfl) (fun hS=>?_)
    have HD3:=Lib.hid hS.1
    have HBB:=Lib.hid hS.2
    clear hS hS0
    go_wp2
    refine NoPanic.normal ?_
    go_wp2
    go_ret
    exact ⟨by rw [HG3.out]; rfl,M,by rw [HG3.out]; exact HD3.out,by rw [HG3.out]; exact HS2.out.trans (Stepped.below HBB.out)⟩
  · rw [if_neg (by rw [hl]; exact fun h=>hfull h.2)] at HG3
    have hfi:¬ ((T.used:Int) + n > T.room):=by omega
    go_upto_region 4 with fail
    refine wp_region_noPanic ?_
    refine HT.begin (n:=14) (S:=(fun u=>DkAt B M T u ∧ Below w2.heap.size w2 u)) (by kernel_rfl) hS0 ?_
    generalize w2.drew = wd at *
    refine HT.take 0 (.slice A n c) rfl (by kernel_rfl) (fun _ _ _ h=>h) (Or.inl ⟨by rfl,?_⟩) (?_:HT _ _ _ _ _ _ _ ⟨#[_,_,_,_,_,_,_,_,_,_,_,_,_,_,_,_,_,_,.slice A n c,_,_,_,_,_,_,_,_,_,_,_,_,_,_,_,_,_,_,_,_,_,_,_],[]⟩ _)
    · intro u hu
      go_simp
    refine HT.take 1 (.int .i64 n) rfl (by kernel_rfl) (fun _ _ _ h=>h) (Or.inl ⟨by rfl,?_⟩) (?_:HT _ _ _ _ _ _ _ ⟨#[_,_,_,_,_,_,_,_,_,_,_,_,_,_,_,_,_,_,.slice A n c,.int .i64 n,_,_,_,_,_,_,_,_,_,_,_,_,_,_,_,_,_,_,_,_,_,_],[]⟩ _)
    · intro u hu
      go_simp
    refine HT.take 2 (.bool true) rfl (by kernel_rfl) (fun _ _ _ h=>h) (Or.inl ⟨by rfl,?_⟩) (?_:HT _ _ _ _ _ _ _ ⟨#[_,_,_,_,_,_,_,_,_,_,_,_,_,_,_,_,_,_,.slice A n c,.int .i64 n,.bool true,_,_,_,_,_,_,_,_,_,_,_,_,_,_,_,_,_,_,_,_,_],[]⟩ _)
    · intro u hu
      go_simp
    refine HT.take 3 (.bool true) rfl (by kernel_rfl) (fun _ _ _ h=>h) (Or.inl ⟨by rfl,?_⟩) (?_:HT _ _ _ _ _ _ _ ⟨#[_,_,_,_,_,_,_,_,_,_,_,_,_,_,_,_,_,_,.slice A n c,.int .i64 n,.bool true,.bool true,_,_,_,_,_,_,_,_,_,_,_,_,_,_,_,_,_,_,_,_],[]⟩ _)
    · intro u hu
      go_simp
    refine HT.take 4 (.pointer (some ⟨M.d,0,none⟩)) rfl (by kernel_rfl) (fun _ _ _ h=>h) (Or.inl ⟨by rfl,?_⟩) (?_:HT _ _ _ _ _ _ _ ⟨#[_,_,_,_,_,_,_,_,_,_,_,_,_,_,_,_,_,_,.slice A n c,.int .i64 n,.bool true,.bool true,.pointer (some ⟨M.d,0,none⟩),_,_,_,_,_,_,_,_,_,_,_,_,_,_,_,_,_,_,_],[]⟩ _)
    · intro u hu
      go_simp
    refine HT.take 6 (.slice A n c) rfl (by kernel_rfl) (fun _ _ _ h=>h) (Or.inl ⟨by rfl,?_⟩) (?_:HT _ _ _ _ _ _ _ ⟨#[_,_,_,_,_,_,_,_,_,_,_,_,_,_,_,_,_,_,.slice A n c,.int .i64 n,.bool true,.bool true,.pointer (some ⟨M.d,0,none⟩),_,.slice A n c,_,_,_,_,_,_,_,_,_,_,_,_,_,_,_,_,_],[]⟩ _)
    · intro u hu
      go_simp
    refine HT.take 7 (.int .i64 n) rfl (by kernel_rfl) (fun _ _ _ h=>h) (Or.inl ⟨by rfl,?_⟩) (?_:HT _ _ _ _ _ _ _ ⟨#[_,_,_,_,_,_,_,_,_,_,_,_,_,_,_,_,_,_,.slice A n c,.int .i64 n,.bool true,.bool true,.pointer (some ⟨M.d,0,none⟩),_,.slice A n c,.int .i64 n,_,_,_,_,_,_,_,_,_,_,_,_,_,_,_,_],[]⟩ _)
    · intro u hu
      go_simp
    refine HT.take 9 (.pointer (some ⟨M.d,0,none⟩)) rfl (by kernel_rfl) (fun _ _ _ h=>h) (Or.inl ⟨by rfl,?_⟩) (?_:HT _ _ _ _ _ _ _ ⟨#[_,_,_,_,_,_,_,_,_,_,_,_,_,_,_,_,_,_,.slice A n c,.int .i64 n,.bool true,.bool true,.pointer (some ⟨M.d,0,none⟩),_,.slice A n c,.int .i64 n,_,.pointer (some ⟨M.d,0,none⟩),_,_,_,_,_,_,_,_,_,_,_,_,_,_],[]⟩ _)
    · intro u hu
      go_simp
    refine HT.take 10 (.pointer (some ⟨M.d,0,none⟩)) rfl (by kernel_rfl) (fun _ _ _ h=>h) (Or.inl ⟨by rfl,?_⟩) (?_:HT _ _ _ _ _ _ _ ⟨#[_,_,_,_,_,_,_,_,_,_,_,_,_,_,_,_,_,_,.slice A n c,.int .i64 n,.bool true,.bool true,.pointer (some ⟨M.d,0,none⟩),_,.slice A n c,.int .i64 n,_,.pointer (some ⟨M.d,0,none⟩),.pointer (some ⟨M.d,0,none⟩),_,_,_,_,_,_,_,_,_,_,_,_,_],[]⟩ _)
    · intro u hu
      go_simp
    refine HT.take 11 (.pointer (some ⟨M.d,4,none⟩)) rfl (by kernel_rfl) (fun _ _ _ h=>h) (Or.inl ⟨by rfl,?_⟩) (?_:HT _ _ _ _ _ _ _ ⟨#[_,_,_,_,_,_,_,_,_,_,_,_,_,_,_,_,_,_,.slice A n c,.int .i64 n,.bool true,.bool true,.pointer (some ⟨M.d,0,none⟩),_,.slice A n c,.int .i64 n,_,.pointer (some ⟨M.d,0,none⟩),.pointer (some ⟨M.d,0,none⟩),.pointer (some ⟨M.d,4,none⟩),_,_,_,_,_,_,_,_,_,_,_,_],[]⟩ _)
    · intro u hu
      go_simp
    refine HT.take 12 (.int .i64 T.room) rfl (by kernel_rfl) (fun _ _ _ h=>h) (Or.inl ⟨by rfl,?_⟩) (?_:HT _ _ _ _ _ _ _ ⟨#[_,_,_,_,_,_,_,_,_,_,_,_,_,_,_,_,_,_,.slice A n c,.int .i64 n,.bool true,.bool true,.pointer (some ⟨M.d,0,none⟩),_,.slice A n c,.int .i64 n,_,.pointer (some ⟨M.d,0,none⟩),.pointer (some ⟨M.d,0,none⟩),.pointer (some ⟨M.d,4,none⟩),.int .i64 T.room,_,_,_,_,_,_,_,_,_,_,_],[]⟩ _)
    · intro u hu
      obtain ⟨y0,y1,y2,y3,y4,y5,y6,y7⟩:=hu.1.cells
      go_simp
    refine HT.step 5 rfl (by kernel_rfl) (fun hS K hK=>?_)
    go_simp
    refine (used_any B M T _ hS.1 HSS.out HOK.out hu2).mono ?_
    rintro e w5 ⟨rfl,hb⟩
    refine hK.out _ _ ⟨hS.1.below hb,below_then hS.2.size hS.2 hb⟩ ?_
    clear hK hS hb
    refine HT.take 8 (.int .i64 ((T.used:Int) + n)) rfl (by kernel_rfl) (fun _ _ _ h=>h) (Or.inl ⟨by rfl,?_⟩) (?_:HT _ _ _ _ _ _ _ ⟨#[_,_,_,_,_,_,_,_,_,_,_,_,_,_,_,_,_,_,.slice A n c,.int .i64 n,.bool true,.bool true,.pointer (some ⟨M.d,0,none⟩),.int .i64 T.used,.slice A n c,.int .i64 n,.int .i64 ((T.used:Int) + n),.pointer (some ⟨M.d,0,none⟩),.pointer (some ⟨M.d,0,none⟩),.pointer (some ⟨M.d,4,none⟩),.int .i64 T.room,_,_,_,_,_,_,_,_,_,_,_],[]⟩ _)
    · intro u hu
      go_simp
    refine HT.take 13 (.bool false) rfl (by kernel_rfl) (fun _ _ _ h=>h) (Or.inl ⟨by rfl,?_⟩) (?_:HT _ _ _ _ _ _ _ ⟨#[_,_,_,_,_,_,_,_,_,_,_,_,_,_,_,_,_,_,.slice A n c,.int .i64 n,.bool true,.bool true,.pointer (some ⟨M.d,0,none⟩),.int .i64 T.used,.slice A n c,.int .i64 n,.int .i64 ((T.used:Int) + n),.pointer (some ⟨M.d,0,none⟩),.pointer (some ⟨M.d,0,none⟩),.pointer (some ⟨M.d,4,none⟩),.int .i64 T.room,.bool false,_,_,_,_,_,_,_,_,_,_],[]⟩ _)
    · intro u hu
      go_simp
    refine HT.tail _ rfl rfl (by kernel_rfl) (fun hS=>?_)
    have HD3:=Lib.hid hS.1
    have HBB:=Lib.hid hS.2
    clear hS hS0
    go_wp2
    refine NoPanic.normal ?_
    have HS3:=Lib.hid (HS2.out.trans (Stepped.below HBB.out))
    have HX3:=Lib.hid (HX2.out.below HBB.out)
    clear HD2 HS2 HX2
    obtain ⟨w3,rfl⟩:∃ w3:World,w3 = w5:=⟨_,rfl⟩
    subst hl
    have z1:w3.cell? ⟨M.fa no,1,none⟩ = some (.slice (M.da no) (T.size no) (M.dc no)):=(HD3.out.files no hno2).blk.cell 1 rfl
    have hB3:B ≤ w3.heap.size:=HD3.out.base
    go_wp2_with (at_builtin; refine appB _ rfl _ _ rfl B (M.da no) (T.size no) (M.dc no) (T.data.getD no []) rfl (HD3.out.files no hno2).row _ l.length _ l rfl HX3.out (by omega) hB3 ?_; intro A1 c1 w4 hr4 ha4; have hF4:=(HD3.out.files no hno2).blk.keptG ha4.grown (fun e=>((HD3.out.files no hno2).row.tag e).ne (HD3.out.files no hno2).blk.tag (by decide) rfl); have f4:=hF4.free 1; have g4:w4.cell? ⟨M.fa no,1,none⟩ = some (.slice (M.da no) (T.size no) (M.dc no)):=hF4.cell 1 rfl)
    go_ret
    exact ⟨by rw [HG3.out]; rfl,_,by rw [HG3.out]; exact HD3.out.wrote hno2 ha4 hr4,by rw [HG3.out]; exact HS3.out.trans (Stepped.wrote hno2 ha4)⟩
end Go.Proofs.YtkempjcphpnocaaGreatDoor
namespace Go.Proofs.YtkempjcphpnocaaGreatDoor
open Go Go.RowKit Go.Maps
namespace S
def ran:D.Dsk → List (D.Dsk → D.Dsk × Int) → Nat → Option D.Dsk
  | d,_,0=>some d
  | _,[],_ + 1=>none
  | d,f :: r,k + 1=>if (f d).2 = 0 then ran (f d).1 r k else none
theorem ran_zero (d:D.Dsk) (ops:List (D.Dsk → D.Dsk × Int)):ran d ops 0 = some d:=by cases ops <;> rfl
theorem ran_next:∀ {ops:List (D.Dsk → D.Dsk × Int)} {d d1:D.Dsk} {k:Nat} {f:D.Dsk → D.Dsk × Int},ran d ops k = some d1 → ops[k]? = some f → (f d1).2 = 0 → ran d ops (k + 1) = some (f d1).1
  | [],_,_,_,_,_,h,_=>by simp at h
  | g :: r,d,d1,0,f,h,hf,h0=>by
    simp only [ran,Option.some.injEq] at h
    subst h
    simp only [List.getElem?_cons_zero,Option.some.injEq] at hf
    subst hf
    simp [ran,h0]
  | g :: r,d,d1,k + 1,f,h,hf,h0=>by
    unfold ran at h
    split at h
    · rename_i hg
      have:=ran_next h (by simpa using hf) h0
      unfold ran
      rw [if_pos hg]
      exact this
    · cases h
theorem ran_bad:∀ {ops:List (D.Dsk → D.Dsk × Int)} {d d1:D.Dsk} {k:Nat} {f:D.Dsk → D.Dsk × Int},ran d ops k = some d1 → ops[k]? = some f → (f d1).2 ≠ 0 → steps d ops = ((f d1).1,k,(f d1).2)
  | [],_,_,_,_,_,h,_=>by simp at h
  | g :: r,d,d1,0,f,h,hf,h0=>by
    simp only [ran,Option.some.injEq] at h
    subst h
    simp only [List.getElem?_cons_zero,Option.some.injEq] at hf
    subst hf
    unfold steps
    rw [if_pos h0]
  | g :: r,d,d1,k + 1,f,h,hf,h0=>by
    unfold ran at h
    split at h
    · rename_i hg
      have:=ran_bad h (by simpa using hf) h0
      unfold steps
      rw [if_neg (by simpa using hg),this]
    · cases h
theorem ran_all:∀ {ops:List (D.Dsk → D.Dsk × Int)} {d d1:D.Dsk},ran d ops ops.length = some d1 → steps d ops = (d1,ops.length,0)
  | [],d,d1,h=>by
    simp only [List.length_nil,ran,Option.some.injEq] at h
    subst h
    rfl
  | g :: r,d,d1,h=>by
    simp only [List.length_cons] at h
    unfold ran at h
    split at h
    · rename_i hg
      have:=ran_all h
      unfold steps
      rw [if_neg (by simpa using hg),this,List.length_cons]
    · cases h
theorem ran_fit:∀ {ops:List (D.Dsk → D.Dsk × Int)} {d d1:D.Dsk} {k m:Nat},(∀ f ∈ ops,∀ (m:Nat) (d:D.Dsk),D.Fit m d → D.Fit (m + 1) (f d).1) → ran d ops k = some d1 → D.Fit m d → D.Fit (m + k) d1
  | ops,d,d1,0,m,_,h,hf=>by
    rw [ran_zero] at h
    cases h
    exact hf
  | [],_,_,_ + 1,_,_,h,_=>by cases h
  | g :: r,d,d1,k + 1,m,ho,h,hf=>by
    unfold ran at h
    split at h
    · have:=ran_fit (fun f hf=>ho f (List.mem_cons_of_mem _ hf)) h (ho g (by simp) m d hf)
      rw [show m + (k + 1) = m + 1 + k by omega]
      exact this
    · cases h
end S
def RetFirst (B l:Nat) (M:DM) (d:D.Dsk) (count:Nat) (w:World) (x:D.Dsk × Nat × Int) (e:Ending) (w':World):Prop :=
  e = .returned (.tuple #[.int .i64 x.2.1,.int .i64 x.2.2]) ∧ ∃ M',LgAt B l M' x.1 count w' ∧ Went (lgFoot l M d) w (lgFoot l M' x.1) w' ∧ M'.d = M.d
def StepOk (g:Nat) (args:Array Value) (B l:Nat) (M:DM) (d:D.Dsk) (count m:Nat) (w:World) (f:D.Dsk → D.Dsk × Int):Prop :=
  ∀ (M1:DM) (d1:D.Dsk) (u:World),LgAt B l M1 d1 count u → Went (lgFoot l M d) w (lgFoot l M1 d1) u → M1.d = M.d → D.Fit m d1 → Calls Tryz.prog g args u (RetLog B l M1 d1 u ((f d1).1,count,(f d1).2))
set_option maxHeartbeats 4000000 in
theorem first4_any (B l:Nat) (M:DM) (d:D.Dsk) (count m:Nat) (bx by_:Nat) (A:Option Addr) (c:Nat) (f0 f1 f2 f3:D.Dsk → D.Dsk × Int) (w:World) (h:LgAt B l M d count w) (hf:D.Fit m d) (k0:∀ (m:Nat) (d:D.Dsk),D.Fit m d → D.Fit (m + 1) (f0 d).1) (k1:∀ (m:Nat) (d:D.Dsk),D.Fit m d → D.Fit (m + 1) (f1 d).1) (k2:∀ (m:Nat) (d:D.Dsk),D.Fit m d → D.Fit (m + 1) (f2 d).1) (k3:∀ (m:Nat) (d:D.Dsk),D.Fit m d → D.Fit (m + 1) (f3 d).1)
    (hx:Rd w A 4 1 [.func (.func 66) #[] #[.pointer (some ⟨bx,0,none⟩)],.func (.func 67) #[] #[.pointer (some ⟨bx,0,none⟩),.pointer (some ⟨by_,0,none⟩)],.func (.func 69) #[] #[.pointer (some ⟨bx,0,none⟩)],.func (.func 70) #[] #[.pointer (some ⟨bx,0,none⟩)]]) (hA:∀ a,A = some a → ¬ lgFoot l M d a.block)
    (h0:StepOk 66 #[.pointer (some ⟨bx,0,none⟩)] B l M d count (m + 0) w f0) (h1:StepOk 67 #[.pointer (some ⟨bx,0,none⟩),.pointer (some ⟨by_,0,none⟩)] B l M d count (m + 1) w f1) (h2:StepOk 69 #[.pointer (some ⟨bx,0,none⟩)] B l M d count (m + 2) w f2) (h3:StepOk 70 #[.pointer (some ⟨bx,0,none⟩)] B l M d count (m + 3) w f3) :
    Calls Tryz.prog 58 #[.slice A 4 c] w (RetFirst B l M d count w (S.steps d [f0,f1,f2,f3])):=by
  have HFIT:Hid (∀ f ∈ [f0,f1,f2,f3],∀ (m:Nat) (d:D.Dsk),D.Fit m d → D.Fit (m + 1) (f d).1):=Lib.hid (by
    intro f hf
    simp only [List.mem_cons,List.not_mem_nil,or_false] at hf
    rcases hf with rfl | rfl | rfl | rfl
    · exact k0
    · exact k1
    · exact k2
    · exact k3
    )
  obtain ⟨ops,hops⟩:∃ ops,[f0,f1,f2,f3] = ops:=⟨_,rfl⟩
  have HO0:Hid (ops[0]? = some f0):=Lib.hid (by rw [← hops]; rfl)
  have HO1:Hid (ops[1]? = some f1):=Lib.hid (by rw [← hops]; rfl)
  have HO2:Hid (ops[2]? = some f2):=Lib.hid (by rw [← hops]; rfl)
  have HO3:Hid (ops[3]? = some f3):=Lib.hid (by rw [← hops]; rfl)
  have HH0:=Lib.hid h0
  have HH1:=Lib.hid h1
  have HH2:=Lib.hid h2
  have HH3:=Lib.hid h3
  have HL:Hid (ops.length = 4):=Lib.hid (by rw [← hops]; rfl)
  have HX:=Lib.hid hx
  have HA:=Lib.hid hA
  have HD:=Lib.hid h
  have HF:=Lib.hid hf
  rw [hops] at HFIT ⊢
  clear h hx hA hf hops h0 k0 h1 k1 h2 k2 h3 k3
  go_enter Tryz.func58,Tryz.ntmps58
  go_wp2
  go_loopw [9] (fun i wr=>∃ (k:Nat) (M1:DM) (d1:D.Dsk),k ≤ 4 ∧ i = .int .i64 k ∧ S.ran d ops k = some d1 ∧ LgAt B l M1 d1 count wr ∧ Went (lgFoot l M d) w (lgFoot l M1 d1) wr ∧ M1.d = M.d) (fun i _=>4 - (intOf i).toNat)
  case atStart=>exact ⟨0,M,d,Nat.zero_le _,rfl,S.ran_zero _ _,HD.out,Went.refl _ _,rfl⟩
  case round =>
    obtain ⟨k,M1,d1,hk,rfl,hran,hd1,hw1,hm1⟩:=hrel
    have HR:=Lib.hid hran
    have HD1:=Lib.hid hd1
    have HW1:=Lib.hid hw1
    have HM1:=Lib.hid hm1
    have HF1:=Lib.hid (S.ran_fit HFIT.out hran HF.out)
    clear hran hd1 hw1 hm1
    obtain ⟨wo,rfl⟩:∃ wo:World,wo = wr:=⟨_,rfl⟩
    obtain ⟨b,o,hAe,hblt,hcell⟩:=(HW1.out.rd HX.out (fun _ a ha=>HA.out a ha)).2 (by decide)
    subst hAe
    have y0:wo.cell? ⟨b,o,none⟩ = some (.func (.func 66) #[] #[.pointer (some ⟨bx,0,none⟩)]):=hcell 0 _ rfl
    have y1:wo.cell? ⟨b,o + 1,none⟩ = some (.func (.func 67) #[] #[.pointer (some ⟨bx,0,none⟩),.pointer (some ⟨by_,0,none⟩)]):=hcell 1 _ rfl
    have y2:wo.cell? ⟨b,o + 2,none⟩ = some (.func (.func 69) #[] #[.pointer (some ⟨bx,0,none⟩)]):=hcell 2 _ rfl
    have y3:wo.cell? ⟨b,o + 3,none⟩ = some (.func (.func 70) #[] #[.pointer (some ⟨bx,0,none⟩)]):=hcell 3 _ rfl
    clear hcell
    obtain rfl | rfl | rfl | rfl | rfl:k = 0 ∨ k = 1 ∨ k = 2 ∨ k = 3 ∨ k = 4:=by omega
    · clear y1 y2 y3
      have HC:=Lib.hid (HH0.out M1 d1 wo HD1.out HW1.out HM1.out HF1.out)
      go_wp2_with fail
      refine HC.out.mono ?_
      rintro e w2 ⟨rfl,M2,hd2,hw2,hm2⟩
      have HD2:=Lib.hid hd2
      have HW2:=Lib.hid (HW1.out.trans hw2)
      have HM2:=Lib.hid (hm2.trans HM1.out)
      clear hd2 hw2 hm2 HC
      by_cases h0:(f0 d1).2 = 0
      · have HN:=Lib.hid (S.ran_next HR.out HO0.out h0)
        have h0b:((f0 d1).2 != 0) = false:=by rw [h0]; rfl
        go_wp2
        go_roundw
        case rel=>exact ⟨1,M2,(f0 d1).1,by decide,by go_num,HN.out,HD2.out,HW2.out,HM2.out⟩
        case measure=>simp [intOf]
      · have HN:=Lib.hid (S.ran_bad HR.out HO0.out h0)
        have h0b:((f0 d1).2 != 0) = true:=by simpa using h0
        go_wp2
        go_ret2
        exact ⟨by rw [HN.out] <;> rfl,M2,by rw [HN.out]; exact HD2.out,by rw [HN.out]; exact HW2.out,HM2.out⟩
    · clear y0 y2 y3
      have HC:=Lib.hid (HH1.out M1 d1 wo HD1.out HW1.out HM1.out HF1.out)
      go_wp2_with fail
      refine HC.out.mono ?_
      rintro e w2 ⟨rfl,M2,hd2,hw2,hm2⟩
      have HD2:=Lib.hid hd2
      have HW2:=Lib.hid (HW1.out.trans hw2)
      have HM2:=Lib.hid (hm2.trans HM1.out)
      clear hd2 hw2 hm2 HC
      by_cases h0:(f1 d1).2 = 0
      · have HN:=Lib.hid (S.ran_next HR.out HO1.out h0)
        have h0b:((f1 d1).2 != 0) = false:=by rw [h0]; rfl
        go_wp2
        go_roundw
        case rel=>exact ⟨2,M2,(f1 d1).1,by decide,by go_num,HN.out,HD2.out,HW2.out,HM2.out⟩
        case measure=>simp [intOf]
      · have HN:=Lib.hid (S.ran_bad HR.out HO1.out h0)
        have h0b:((f1 d1).2 != 0) = true:=by simpa using h0
        go_wp2
        go_ret2
        exact ⟨by rw [HN.out] <;> rfl,M2,by rw [HN.out]; exact HD2.out,by rw [HN.out]; exact HW2.out,HM2.out⟩
    · clear y0 y1 y3
      have HC:=Lib.hid (HH2.out M1 d1 wo HD1.out HW1.out HM1.out HF1.out)
      go_wp2_with fail
      refine HC.out.mono ?_
      rintro e w2 ⟨rfl,M2,hd2,hw2,hm2⟩
      have HD2:=Lib.hid hd2
      have HW2:=Lib.hid (HW1.out.trans hw2)
      have HM2:=Lib.hid (hm2.trans HM1.out)
      clear hd2 hw2 hm2 HC
      by_cases h0:(f2 d1).2 = 0
      · have HN:=Lib.hid (S.ran_next HR.out HO2.out h0)
        have h0b:((f2 d1).2 != 0) = false:=by rw [h0]; rfl
        go_wp2
        go_roundw
        case rel=>exact ⟨3,M2,(f2 d1).1,by decide,by go_num,HN.out,HD2.out,HW2.out,HM2.out⟩
        case measure=>simp [intOf]
      · have HN:=Lib.hid (S.ran_bad HR.out HO2.out h0)
        have h0b:((f2 d1).2 != 0) = true:=by simpa using h0
        go_wp2
        go_ret2
        exact ⟨by rw [HN.out] <;> rfl,M2,by rw [HN.out]; exact HD2.out,by rw [HN.out]; exact HW2.out,HM2.out⟩
    · clear y0 y1 y2
      have HC:=Lib.hid (HH3.out M1 d1 wo HD1.out HW1.out HM1.out HF1.out)
      go_wp2_with fail
      refine HC.out.mono ?_
      rintro e w2 ⟨rfl,M2,hd2,hw2,hm2⟩
      have HD2:=Lib.hid hd2
      have HW2:=Lib.hid (HW1.out.trans hw2)
      have HM2:=Lib.hid (hm2.trans HM1.out)
      clear hd2 hw2 hm2 HC
      by_cases h0:(f3 d1).2 = 0
      · have HN:=Lib.hid (S.ran_next HR.out HO3.out h0)
        have h0b:((f3 d1).2 != 0) = false:=by rw [h0]; rfl
        go_wp2
        go_roundw
        case rel=>exact ⟨4,M2,(f3 d1).1,by decide,by go_num,HN.out,HD2.out,HW2.out,HM2.out⟩
        case measure=>simp [intOf]
      · have HN:=Lib.hid (S.ran_bad HR.out HO3.out h0)
        have h0b:((f3 d1).2 != 0) = true:=by simpa using h0
        go_wp2
        go_ret2
        exact ⟨by rw [HN.out] <;> rfl,M2,by rw [HN.out]; exact HD2.out,by rw [HN.out]; exact HW2.out,HM2.out⟩
    · clear y0 y1 y2 y3
      have HN:=Lib.hid (S.ran_all (ops:=ops) (by rw [HL.out]; exact HR.out))
      go_wp2
      go_ret2
      exact ⟨by rw [HN.out,HL.out] <;> rfl,M1,by rw [HN.out]; exact HD1.out,by rw [HN.out]; exact HW1.out,HM1.out⟩
set_option maxHeartbeats 4000000 in
theorem first3_any (B l:Nat) (M:DM) (d:D.Dsk) (count m:Nat) (bx:Nat) (A:Option Addr) (c:Nat) (f0 f1 f2:D.Dsk → D.Dsk × Int) (w:World) (h:LgAt B l M d count w) (hf:D.Fit m d) (k0:∀ (m:Nat) (d:D.Dsk),D.Fit m d → D.Fit (m + 1) (f0 d).1) (k1:∀ (m:Nat) (d:D.Dsk),D.Fit m d → D.Fit (m + 1) (f1 d).1) (k2:∀ (m:Nat) (d:D.Dsk),D.Fit m d → D.Fit (m + 1) (f2 d).1)
    (hx:Rd w A 3 1 [.func (.func 59) #[] #[.pointer (some ⟨bx,0,none⟩)],.func (.func 61) #[] #[.pointer (some ⟨bx,0,none⟩)],.func (.func 63) #[.pointer (some ⟨M.d,0,none⟩)] #[]]) (hA:∀ a,A = some a → ¬ lgFoot l M d a.block)
    (h0:StepOk 59 #[.pointer (some ⟨bx,0,none⟩)] B l M d count (m + 0) w f0) (h1:StepOk 61 #[.pointer (some ⟨bx,0,none⟩)] B l M d count (m + 1) w f1) (h2:StepOk 63 #[.pointer (some ⟨M.d,0,none⟩)] B l M d count (m + 2) w f2) :
    Calls Tryz.prog 58 #[.slice A 3 c] w (RetFirst B l M d count w (S.steps d [f0,f1,f2])):=by
  have HFIT:Hid (∀ f ∈ [f0,f1,f2],∀ (m:Nat) (d:D.Dsk),D.Fit m d → D.Fit (m + 1) (f d).1):=Lib.hid (by
    intro f hf
    simp only [List.mem_cons,List.not_mem_nil,or_false] at hf
    rcases hf with rfl | rfl | rfl
    · exact k0
    · exact k1
    · exact k2
    )
  obtain ⟨ops,hops⟩:∃ ops,[f0,f1,f2] = ops:=⟨_,rfl⟩
  have HO0:Hid (ops[0]? = some f0):=Lib.hid (by rw [← hops]; rfl)
  have HO1:Hid (ops[1]? = some f1):=Lib.hid (by rw [← hops]; rfl)
  have HO2:Hid (ops[2]? = some f2):=Lib.hid (by rw [← hops]; rfl)
  have HH0:=Lib.hid h0
  have HH1:=Lib.hid h1
  have HH2:=Lib.hid h2
  have HL:Hid (ops.length = 3):=Lib.hid (by rw [← hops]; rfl)
  have HX:=Lib.hid hx
  have HA:=Lib.hid hA
  have HD:=Lib.hid h
  have HF:=Lib.hid hf
  rw [hops] at HFIT ⊢
  clear h hx hA hf hops h0 k0 h1 k1 h2 k2
  go_enter Tryz.func58,Tryz.ntmps58
  go_wp2
  go_loopw [9] (fun i wr=>∃ (k:Nat) (M1:DM) (d1:D.Dsk),k ≤ 3 ∧ i = .int .i64 k ∧ S.ran d ops k = some d1 ∧ LgAt B l M1 d1 count wr ∧ Went (lgFoot l M d) w (lgFoot l M1 d1) wr ∧ M1.d = M.d) (fun i _=>3 - (intOf i).toNat)
  case atStart=>exact ⟨0,M,d,Nat.zero_le _,rfl,S.ran_zero _ _,HD.out,Went.refl _ _,rfl⟩
  case round =>
    obtain ⟨k,M1,d1,hk,rfl,hran,hd1,hw1,hm1⟩:=hrel
    have HR:=Lib.hid hran
    have HD1:=Lib.hid hd1
    have HW1:=Lib.hid hw1
    have HM1:=Lib.hid hm1
    have HF1:=Lib.hid (S.ran_fit HFIT.out hran HF.out)
    clear hran hd1 hw1 hm1
    obtain ⟨wo,rfl⟩:∃ wo:World,wo = wr:=⟨_,rfl⟩
    obtain ⟨b,o,hAe,hblt,hcell⟩:=(HW1.out.rd HX.out (fun _ a ha=>HA.out a ha)).2 (by decide)
    subst hAe
    have y0:wo.cell? ⟨b,o,none⟩ = some (.func (.func 59) #[] #[.pointer (some ⟨bx,0,none⟩)]):=hcell 0 _ rfl
    have y1:wo.cell? ⟨b,o + 1,none⟩ = some (.func (.func 61) #[] #[.pointer (some ⟨bx,0,none⟩)]):=hcell 1 _ rfl
    have y2:wo.cell? ⟨b,o + 2,none⟩ = some (.func (.func 63) #[.pointer (some ⟨M.d,0,none⟩)] #[]):=hcell 2 _ rfl
    clear hcell
    obtain rfl | rfl | rfl | rfl:k = 0 ∨ k = 1 ∨ k = 2 ∨ k = 3:=by omega
    · clear y1 y2
      have HC:=Lib.hid (HH0.out M1 d1 wo HD1.out HW1.out HM1.out HF1.out)
      go_wp2_with fail
      refine HC.out.mono ?_
      rintro e w2 ⟨rfl,M2,hd2,hw2,hm2⟩
      have HD2:=Lib.hid hd2
      have HW2:=Lib.hid (HW1.out.trans hw2)
      have HM2:=Lib.hid (hm2.trans HM1.out)
      clear hd2 hw2 hm2 HC
      by_cases h0:(f0 d1).2 = 0
      · have HN:=Lib.hid (S.ran_next HR.out HO0.out h0)
        have h0b:((f0 d1).2 != 0) = false:=by rw [h0]; rfl
        go_wp2
        go_roundw
        case rel=>exact ⟨1,M2,(f0 d1).1,by decide,by go_num,HN.out,HD2.out,HW2.out,HM2.out⟩
        case measure=>simp [intOf]
      · have HN:=Lib.hid (S.ran_bad HR.out HO0.out h0)
        have h0b:((f0 d1).2 != 0) = true:=by simpa using h0
        go_wp2
        go_ret2
        exact ⟨by rw [HN.out] <;> rfl,M2,by rw [HN.out]; exact HD2.out,by rw [HN.out]; exact HW2.out,HM2.out⟩
    · clear y0 y2
      have HC:=Lib.hid (HH1.out M1 d1 wo HD1.out HW1.out HM1.out HF1.out)
      go_wp2_with fail
      refine HC.out.mono ?_
      rintro e w2 ⟨rfl,M2,hd2,hw2,hm2⟩
      have HD2:=Lib.hid hd2
      have HW2:=Lib.hid (HW1.out.trans hw2)
      have HM2:=Lib.hid (hm2.trans HM1.out)
      clear hd2 hw2 hm2 HC
      by_cases h0:(f1 d1).2 = 0
      · have HN:=Lib.hid (S.ran_next HR.out HO1.out h0)
        have h0b:((f1 d1).2 != 0) = false:=by rw [h0]; rfl
        go_wp2
        go_roundw
        case rel=>exact ⟨2,M2,(f1 d1).1,by decide,by go_num,HN.out,HD2.out,HW2.out,HM2.out⟩
        case measure=>simp [intOf]
      · have HN:=Lib.hid (S.ran_bad HR.out HO1.out h0)
        have h0b:((f1 d1).2 != 0) = true:=by simpa using h0
        go_wp2
        go_ret2
        exact ⟨by rw [HN.out] <;> rfl,M2,by rw [HN.out]; exact HD2.out,by rw [HN.out]; exact HW2.out,HM2.out⟩
    · clear y0 y1
      have HC:=Lib.hid (HH2.out M1 d1 wo HD1.out HW1.out HM1.out HF1.out)
      go_wp2_with fail
      refine HC.out.mono ?_
      rintro e w2 ⟨rfl,M2,hd2,hw2,hm2⟩
      have HD2:=Lib.hid hd2
      have HW2:=Lib.hid (HW1.out.trans hw2)
      have HM2:=Lib.hid (hm2.trans HM1.out)
      clear hd2 hw2 hm2 HC
      by_cases h0:(f2 d1).2 = 0
      · have HN:=Lib.hid (S.ran_next HR.out HO2.out h0)
        have h0b:((f2 d1).2 != 0) = false:=by rw [h0]; rfl
        go_wp2
        go_roundw
        case rel=>exact ⟨3,M2,(f2 d1).1,by decide,by go_num,HN.out,HD2.out,HW2.out,HM2.out⟩
        case measure=>simp [intOf]
      · have HN:=Lib.hid (S.ran_bad HR.out HO2.out h0)
        have h0b:((f2 d1).2 != 0) = true:=by simpa using h0
        go_wp2
        go_ret2
        exact ⟨by rw [HN.out] <;> rfl,M2,by rw [HN.out]; exact HD2.out,by rw [HN.out]; exact HW2.out,HM2.out⟩
    · clear y0 y1 y2
      have HN:=Lib.hid (S.ran_all (ops:=ops) (by rw [HL.out]; exact HR.out))
      go_wp2
      go_ret2
      exact ⟨by rw [HN.out,HL.out] <;> rfl,M1,by rw [HN.out]; exact HD1.out,by rw [HN.out]; exact HW1.out,HM1.out⟩
end Go.Proofs.YtkempjcphpnocaaGreatDoor
