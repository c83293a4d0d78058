/- The law StoreKeeps walked (printed by gen/keeps.py). Conditions: an entry, and an Id, of at most 2^20 bytes; the library's tables. -/
import Derived.Test.YtkempjcphpnocaaGreatDoorZ17
import Derived.Test.YtkempjcphpnocaaGreatDoorOpG
namespace Go.Proofs.YtkempjcphpnocaaGreatDoor
open Go Go.RowKit Go.Maps
theorem StAt.tried {B:Nat} {X:SM} {s:S.Sto} {w w':World} {r:Option Nat} (h:StAt B X s w) (hg:w.grownBy w' r) (hr:∀ k,r = some k → Tag w k 57):StAt B X s w':=by
  have hd:∀ {k t},Tag w k t → t ≠ 57 → r ≠ some k:=fun hk hne e=>(hk.ne (hr _ e) hne) rfl
  have hm:∀ {k},MapB w k → r ≠ some k:=fun hk e=>((hr _ e).map hk) rfl
  obtain ⟨⟨a1,a2,a3,a4,a5,a6,a7,a8,a9,a10⟩,b2,b3⟩:=h.log
  exact ⟨⟨⟨a1.keptG hg (hd a1.tag (by decide)),a2.kept hg (fun e=>by first | exact hm (ownsMap_tag a2) e | exact hm (ownsMap_tag a2) e.symm),a3.kept hg (fun e=>by first | exact hm (ownsMap_tag a3) e | exact hm (ownsMap_tag a3) e.symm),a4,a5.keptG hg (fun k hk=>hd (a5.tag hk) (by decide)),
    a6.imp (fun c v hc=>hc.kept hg (fun k t e ht=>⟨fun he=>(ht.ne (hr k e) (by rw [he]; decide)) rfl,fun he=>(ht.ne (hr k e) (by rw [he]; decide)) rfl⟩)),a7.keptG hg (fun k hk=>hd (a7.tag hk) (by decide)),
    fun no hn=>⟨(a8 no hn).blk.keptG hg (hd (a8 no hn).blk.tag (by decide)),(a8 no hn).row.keptG hg (fun k hk=>hd ((a8 no hn).row.tag hk) (by decide)),(a8 no hn).ge⟩,a9,a10⟩,b2.keptG hg (hd b2.tag (by decide)),b3⟩,h.blk.keptG hg (hd h.blk.tag (by decide)),h.tab.kept hg (fun e=>by first | exact hm (ownsMap_tag h.tab) e | exact hm (ownsMap_tag h.tab) e.symm),h.ne,h.used.keptG hg (fun k hk=>hd (h.used.tag hk) (by decide)),h.ge⟩
section
variable {B n i u:Nat} {X:SM} {s:S.Sto} {w:World}
theorem keepPut_any (p:EP) (h:StAt B X s w) (hk:S.Keeps n i u s) (hf:D.Fit (3 + 13 * i) s.d) (hi:i ≤ 100) (hp:p.small) (hx:ERd w p) (ht:TabOk w) :
    Calls Tryz.prog 10 #[.pointer (some ⟨X.st,0,none⟩),p.v] w (RetSto B X s w (s.put p.E).1 (.int .i64 (s.put p.E).2)):=by
  obtain ⟨h1,h2,h3,h4,h5,h6⟩:=ep_len hp
  have hul:s.used.length = n:=by rw [hk.used,S.marks_len]
  exact sput_any B X s p.E (3 + 13 * i) p.A p.c p.X p.d w h hf (by omega) hk.up (by have:=hk.len; omega) (fun q hq=>by have:=(hk.tab q hq).2.1; omega) (by have:=hk.count; omega) (by rw [hul]; exact hk.le) (fun q hq=>by rw [hul]; exact (hk.tab q hq).1) h3 h4 h5 h6 hx.1 hx.2 ht
theorem keepDrop_any (id:ByteArray) (h:StAt B X s w) (hk:S.Keeps n i u s) (hf:D.Fit (3 + 13 * i) s.d) (hi:i ≤ 100) (hid:id.size ≤ 1048576) :
    Calls Tryz.prog 18 #[.pointer (some ⟨X.st,0,none⟩),.string id] w (RetSto B X s w (s.drop id).1 (.int .i64 (s.drop id).2)):=by
  have hul:s.used.length = n:=by rw [hk.used,S.marks_len]
  exact sdrop_any B X s id (3 + 13 * i) w h hf (by omega) hk.up (by have:=hk.len; omega) (fun q hq=>by have:=(hk.tab q hq).2.1; omega) (by have:=hk.count; omega) (by rw [hul]; exact hk.le) (fun q hq=>by rw [hul]; exact (hk.tab q hq).1) hid
theorem keepGet_any {m:Nat} (id:ByteArray) (h:StAt B X s w) (hk:S.Keeps n i u s) (hf:D.Fit m s.d) (hm:m ≤ 268435456) (hid:id.size ≤ 1099511627776) (ht:Tabs w) :
    Calls Tryz.prog 13 #[.pointer (some ⟨X.st,0,none⟩),.string id] w (RetGet w (s.get id)) :=
  sget_any B X s id m w h hf hm (fun _ hp=>hk.no4 hp) hid ht
theorem keepIds_any (h:StAt B X s w) (hk:S.Keeps n i u s) (hi:i ≤ 100) :
    Calls Tryz.prog 12 #[.pointer (some ⟨X.st,0,none⟩)] w (RetRow w 9 1 s.ids.length (scells s.ids)) :=
  ids_any B X s w h hk.up (by have:=hk.len; omega)
end
theorem cells10 {w:World} {b:Nat} {t:TypeId} {x0 x1 x2 x3 x4 x5 x6 x7 x8 x9:Value} (h:Blk w b #[x0,x1,x2,x3,x4,x5,x6,x7,x8,x9] t):w.cell? ⟨b,0,none⟩ = some x0 ∧ w.cell? ⟨b,1,none⟩ = some x1 ∧ w.cell? ⟨b,2,none⟩ = some x2 ∧ w.cell? ⟨b,3,none⟩ = some x3 ∧ w.cell? ⟨b,4,none⟩ = some x4 ∧ w.cell? ⟨b,5,none⟩ = some x5 ∧ w.cell? ⟨b,6,none⟩ = some x6 ∧ w.cell? ⟨b,7,none⟩ = some x7 ∧ w.cell? ⟨b,8,none⟩ = some x8 ∧ w.cell? ⟨b,9,none⟩ = some x9 :=
  ⟨h.cell 0 rfl,h.cell 1 rfl,h.cell 2 rfl,h.cell 3 rfl,h.cell 4 rfl,h.cell 5 rfl,h.cell 6 rfl,h.cell 7 rfl,h.cell 8 rfl,h.cell 9 rfl⟩
theorem S.born_get (n:Nat) (id:ByteArray):(⟨S.born 1073741824,0,[],S.marks n []⟩:S.Sto).get id = none:=rfl
def EP.zero:EP:=⟨O.Ent.zero,none,0,none,0⟩
theorem EP.zero_rd (w:World):ERd w EP.zero:=⟨Rd.nil _ _ _,Rd.nil _ _ _⟩
theorem id_size {p:EP} (h:p.small):(p.E.k ++ ⟨#[10]⟩ ++ p.E.v).size ≤ 1099511627776:=by
  unfold EP.small at h
  rw [ByteArray.size_append,ByteArray.size_append]
  have:(⟨#[10]⟩:ByteArray).size = 1:=rfl
  omega
theorem drop_ways {n i u:Nat} {s:S.Sto} (h:S.Keeps n i u s) (hi:i + 1 ≤ 100) (hu:u + 110000 ≤ 1000000000) (id:ByteArray) :
    ((s.drop id).2 = 90 ∧ (s.get id).isSome = false ∨ (s.drop id).2 = 0 ∧ (s.get id).isSome = true) ∧ S.Keeps n (i + 1) (u + 521100) (s.drop id).1 ∧ ∀ x,(s.drop id).1.get x = if x = id then none else s.get x:=by
  have hg:=h.get_some id
  cases hf:D.find s.tab id with
  | none =>
    rw [hf] at hg
    rw [S.Keeps.drop_none hf]
    refine ⟨.inl ⟨rfl,hg⟩,h.mono (by omega) (by omega),fun x=>?_⟩
    split
    · rename_i hx
      subst hx
      exact Option.not_isSome_iff_eq_none.1 (by rw [hg]; decide)
    · rfl
  | some no =>
    rw [hf] at hg
    obtain ⟨h1,h2,h3⟩:=h.drop hi hu hf
    exact ⟨.inr ⟨h1,hg⟩,h2,h3⟩
set_option maxRecDepth 100000 in
set_option maxHeartbeats 8000000 in
theorem storeKeeps_any (slots:Int) (A:Option Addr) (n c:Nat) (l:List (EP × ByteArray)) (w:World) (hl:l.length = n) (hnc:n ≤ c) (hn:n ≤ 1099511627776) (hA:A = none → n = 0) (hx:Rd w A n 10 (stcells l)) (hr:∀ q ∈ l,ERd w q.1) (hs:∀ q ∈ l,q.1.small ∧ q.2.size ≤ 1048576) (ht:Tabs w) :
    Calls Tryz.prog 5 #[.int .i64 slots,.slice A n c] w (RetB w true):=by
  subst hl
  have HX:=Lib.hid hx
  have HR:=Lib.hid hr
  have HS:=Lib.hid hs
  have HTA:=Lib.hid ht
  have HAL:=Lib.hid (storeAlive_any w ht)
  have HCU:=Lib.hid (fun u=>lcut_any A l.length c l u rfl hnc hn hA)
  clear hx hr hs ht hA hnc
  go_enter Tryz.func5,Tryz.ntmps5
  go_wp2_with fail
  refine HAL.out.mono ?_
  rintro e w1 ⟨rfl,hb1⟩
  have HB1:=Lib.hid hb1
  clear hb1 HAL
  have HNW:=Lib.hid (newNil_any 1073741824 (-1) w1)
  go_wp2_with fail
  refine HNW.out.mono ?_
  rintro e w2 (⟨hbad,_⟩ | ⟨_,_,M,rfl,hd2,hb2⟩)
  · exact absurd (⟨by decide,by decide⟩:(0:Int) ≤ 1073741824 ∧ (1073741824:Int) ≤ 1073741824) hbad
  have HUN:=Lib.hid (fun k (hk:M.foot (S.fresh 1073741824) k)=>hd2.under hk)
  have HB2:=Lib.hid (below_then HB1.out.size HB1.out hb2)
  have HBX:=Lib.hid hb2
  have HZ1:Hid (w.heap.size ≤ w1.heap.size):=Lib.hid HB1.out.size
  clear HNW HB1
  by_cases hs:0 ≤ slots ∧ slots ≤ 4096
  rotate_left
  · have HOB:=Lib.hid (openBad_any (.pointer (some ⟨M.d,0,none⟩)) slots w2 (by omega))
    go_wp2_with fail
    refine HOB.out.mono ?_
    rintro e w2' ⟨rfl,rfl⟩
    go_wp2
    go_ret
    exact ⟨rfl,HB2.out⟩
  obtain ⟨ns,rfl⟩:∃ ns:Nat,slots = ns:=⟨slots.toNat,by omega⟩
  have hns:ns ≤ 4096:=by omega
  have HOP:=Lib.hid (open0_any w1.heap.size M 1073741824 ns w2 hd2 (by decide) hns)
  clear hd2 hb2
  go_wp2_with fail
  refine HOP.out.mono ?_
  rintro e w3 ⟨X,rfl,hs3,hw3,hm3⟩
  have hbx3:=hw3.under HUN.out HBX.out.size
  have HS3:=Lib.hid hs3
  have HB3:=Lib.hid (HB2.out.trans (hbx3.mono HZ1.out))
  have HM3:=Lib.hid hm3
  have HKP:=Lib.hid (S.Keeps.start hns)
  have HTE:=Lib.hid (T.Tells.nil (S.born_get ns))
  clear hs3 hw3 hm3 hbx3 HOP HUN HBX HB2
  go_upto_region 10 with fail
  obtain ⟨W4,hW4⟩:∃ W4,w3.alloc (.cells #[] 57) = W4:=⟨_,rfl⟩
  have hb4:Below w3.heap.size w3 W4:=by rw [← hW4]; exact (Below.refl _ _).alloc (Nat.le_refl _) _
  rw [hW4]
  have HS4:=Lib.hid (HS3.out.below hb4)
  have HB4:=Lib.hid (below_then HB3.out.size HB3.out hb4)
  generalize w3.heap.size = b3 at *
  clear hW4 hb4 HS3 HB3
  go_wp2_with fail
  refine (HCU.out _).mono ?_
  rintro e w5 ⟨c',rfl,rfl⟩
  have HXC:=Lib.hid (rd_cut HX.out rfl (by rw [List.length_take]; omega:(l.take 60).length ≤ l.length))
  have h60:=take60 l
  have htk:l.take (l.take 60).length = l.take 60:=by
    rw [List.length_take]
    by_cases h:60 ≤ l.length
    · rw [Nat.min_eq_left h]
    · rw [Nat.min_eq_right (by omega),List.take_length,List.take_of_length_le (by omega)]
  rw [htk] at HXC
  have HRC:=Lib.hid (fun q (hq:q ∈ l.take 60)=>HR.out q (List.mem_of_mem_take hq))
  have HSC:=Lib.hid (fun q (hq:q ∈ l.take 60)=>HS.out q (List.mem_of_mem_take hq))
  clear HCU htk HX HR HS
  generalize hls:l.take 60 = ls at *
  clear hls
  obtain ⟨s0,hs0⟩:∃ s0:S.Sto,(⟨S.born 1073741824,0,[],S.marks ns []⟩:S.Sto) = s0:=⟨_,rfl⟩
  have HFI:Hid (D.Fit (3 + 13 * 0) s0.d):=Lib.hid (by rw [← hs0]; exact (S.Kept.start (room:=1073741824) (by decide) hns).fit)
  rw [hs0] at HS4 HKP HTE
  clear hs0
  obtain ⟨B1,hB1⟩:∃ B1,w1.heap.size = B1:=⟨_,rfl⟩
  rw [hB1] at HS4 HZ1
  clear hB1
  go_wp2_with fail
  go_loopw [8,9] (fun a i wr=>∃ (k:Nat) (X1:SM) (s1:S.Sto) (A6:Option Addr) (c6:Nat) (L:List TP),k ≤ ls.length ∧ i = .int .i64 k ∧ a = .slice A6 L.length c6 ∧ L.length ≤ k ∧ S.Keeps ns k (k * 521100) s1 ∧ D.Fit (3 + 13 * k) s1.d ∧ T.Tells L s1 ∧ (∀ t ∈ L,ERd w t.p ∧ t.id.size ≤ 1099511627776) ∧ StAt B1 X1 s1 wr ∧ Below B1 w5 wr ∧ X1.st = X.st ∧ X1.M.d = X.M.d ∧ Row wr w5.heap.size 57 12 A6 L.length c6 (tpcells L)) (fun _ i _=>ls.length - (intOf i).toNat)
  case atStart=>exact ⟨0,X,s0,_,0,[],Nat.zero_le _,rfl,rfl,Nat.le_refl _,HKP.out,HFI.out,HTE.out,(fun _ h=>by cases h),HS4.out,Below.refl _ _,rfl,rfl,Row.empty _ _ _ _ _⟩
  case round =>
    obtain ⟨k,X1,s1,A6,c6,L,hk,rfl,rfl,hLk,hkp,hfi,hte,hen,hst,hbe,hxs,hxd,hrow⟩:=hrel
    have HST:=Lib.hid hst
    have HBE:=Lib.hid hbe
    have HBW:=Lib.hid (HB4.out.trans (hbe.mono HZ1.out))
    have HKS:=Lib.hid hkp
    have HFS:=Lib.hid hfi
    have HTS:=Lib.hid hte
    have HEN:=Lib.hid hen
    have HRW:=Lib.hid hrow
    have HXS:=Lib.hid hxs
    have HXD:=Lib.hid hxd
    have hzw:w5.heap.size ≤ wr.heap.size:=hbe.size
    have HZW:=Lib.hid hzw
    clear hst hbe hkp hfi hte hen hrow hxs hxd hzw
    obtain ⟨wo,rfl⟩:∃ wo:World,wo = wr:=⟨_,rfl⟩
    by_cases hlt:k < ls.length
    · obtain ⟨b,o,rfl,hbl,hat,y9⟩:=rd_step (HXC.out.below HBW.out) hlt rfl
      have HER:=Lib.hid (HRC.out _ (List.getElem_mem hlt))
      have HSM:=Lib.hid (HSC.out _ (List.getElem_mem hlt))
      generalize (ls[k]'hlt).1 = q at *
      generalize (ls[k]'hlt).2 = id at *
      obtain ⟨y0,y1,y2,y3,y4,y5,y6,y7,y8⟩:=hat
      go_upto_region 15 with fail
      clear y0 y1 y2 y3 y4 y5 y6 y7 y8 y9
      obtain ⟨W6,hW6⟩:∃ W6,wo.alloc (.cells #[.string q.E.k,.string q.E.v,.int .i64 q.E.s,.string q.E.r,.int .i64 q.E.m,.slice q.A q.E.fs.length q.c,.slice q.X q.E.body.length q.d,.int .i64 q.E.asked,.int .i64 q.E.got,.string id] 41) = W6:=⟨_,rfl⟩
      have hk6:Blk W6 wo.heap.size #[.string q.E.k,.string q.E.v,.int .i64 q.E.s,.string q.E.r,.int .i64 q.E.m,.slice q.A q.E.fs.length q.c,.slice q.X q.E.body.length q.d,.int .i64 q.E.asked,.int .i64 q.E.got,.string id] 41:=by rw [← hW6]; exact Blk.new wo _ _
      have hb6:Below wo.heap.size wo W6:=by rw [← hW6]; exact (Below.refl _ _).alloc (Nat.le_refl _) _
      rw [hW6]
      have HK6:=Lib.hid hk6
      have HST6:=Lib.hid (HST.out.below hb6)
      have HBE6:=Lib.hid (below_then HST.out.base HBE.out hb6)
      have HBW6:=Lib.hid (below_then HBW.out.size HBW.out hb6)
      have HRW6:=Lib.hid (HRW.out.below hb6)
      have HZW6:Hid (w5.heap.size ≤ W6.heap.size):=Lib.hid (Nat.le_trans HZW.out hb6.size)
      generalize wo.heap.size = kb at *
      clear hW6 hk6 hb6 HST HBE HBW HRW HZW
      by_cases hid0:id = ⟨#[]⟩
      rotate_left
      · skip
        have hidb:id.toList.isEmpty = false:=by
          cases hq:id.toList with
          | nil =>
            have h1:(id.toList == (⟨#[]⟩:ByteArray).toList) = true:=by rw [hq]; kernel_rfl
            rw [beq_bytes] at h1
            exact absurd (of_decide_eq_true h1) hid0
          | cons _ _=>rfl
        have HDR:=Lib.hid (keepDrop_any id HST6.out HKS.out HFS.out (by omega) HSM.out.2)
        obtain ⟨hd1,hd2,hd3⟩:=drop_ways HKS.out (by omega) (by omega) id
        have HD2:=Lib.hid hd2
        have HTN:=Lib.hid (HTS.out.snoc (s':=(s1.drop id).1) ⟨id,EP.zero,true,true⟩ rfl hd3)
        have HFN:Hid (D.Fit (3 + 13 * (k + 1)) (s1.drop id).1.d):=Lib.hid ((S.drop_fit HFS.out id).mono (by omega))
        have HMU:=Lib.hid (HTS.out.must id)
        obtain ⟨y0,y1,y2,y3,y4,y5,y6,y7,y8,y9⟩:=cells10 HK6.out
        rw [HXS.out] at HDR
        clear hd2 hd3
        go_wp2_with fail
        clear y0 y1 y2 y3 y4 y5 y6 y7 y8 y9
        refine HDR.out.mono ?_
        rintro e w7 ⟨rfl,X7,hs7,hw7,hst7,hd7,_⟩
        have HST7:=Lib.hid hs7
        have HBE7:=Lib.hid (HBE6.out.trans (hw7.under (fun k hk=>HST6.out.under hk) HST6.out.base))
        have HBW7:=Lib.hid (HB4.out.trans (HBE7.out.mono HZ1.out))
        have HRW7:=Lib.hid (hw7.row HRW6.out (fun k hk=>HST6.out.offT (HRW6.out.tag hk) (by decide) (by decide) (by decide) (by decide) (by decide) (by decide) (by decide)))
        have HK7:=Lib.hid (hw7.blk HK6.out (HST6.out.offT HK6.out.tag (by decide) (by decide) (by decide) (by decide) (by decide) (by decide) (by decide)))
        have HX7:=Lib.hid (hst7.trans HXS.out)
        have HDD7:=Lib.hid (hd7.trans HXD.out)
        have HZ7:Hid (w5.heap.size ≤ w7.heap.size):=Lib.hid (Nat.le_trans HZW6.out hw7.size)
        clear hs7 hw7 hst7 hd7 HDR HST6 HBE6 HBW6 HRW6 HZW6 HK6 HKS HFS HTS HXS HXD
        have HMT:=Lib.hid (must_any A6 L.length c6 L id w7 rfl (by omega) HRW7.out.rd)
        rw [HMU.out] at HMT
        obtain ⟨s2,hs2⟩:∃ s2,(s1.drop id).1 = s2:=⟨_,rfl⟩
        rw [hs2] at HST7 HD2 HTN HFN
        clear hs2
        obtain ⟨y0,y1,y2,y3,y4,y5,y6,y7,y8,y9⟩:=cells10 HK7.out
        obtain ⟨cd,hcd⟩:∃ cd,(s1.drop id).2 = cd:=⟨_,rfl⟩
        obtain ⟨mu,hmu⟩:∃ mu,(s1.get id).isSome = mu:=⟨_,rfl⟩
        rw [hcd,hmu] at hd1
        rw [hcd]
        rw [hmu] at HMT
        clear HMU hcd hmu
        go_wp2_with fail
        refine HMT.out.mono ?_
        rintro e w8 ⟨rfl,hb8⟩
        have HST8:=Lib.hid (HST7.out.below hb8)
        have HBE8:=Lib.hid (below_then HST7.out.base HBE7.out hb8)
        have HBW8:=Lib.hid (below_then HBW7.out.size HBW7.out hb8)
        have HRW8:=Lib.hid (HRW7.out.below hb8)
        have HK8:=Lib.hid (HK7.out.below hb8)
        have HZ8:Hid (w5.heap.size ≤ w8.heap.size):=Lib.hid (Nat.le_trans HZ7.out hb8.size)
        clear y0 y1 y2 y3 y4 y5 y6 y7 y8 y9 hb8 HMT HST7 HBE7 HBW7 HRW7 HK7 HZ7
        have HEN8:Hid (∀ t ∈ L ++ [(⟨id,EP.zero,true,true⟩:TP)],ERd w t.p ∧ t.id.size ≤ 1099511627776):=Lib.hid (fun t ht=>by
          rcases List.mem_append.1 ht with h | h
          · exact HEN.out t h
          · rw [List.mem_singleton.1 h]
            exact ⟨EP.zero_rd w,by have:=HSM.out.2; show id.size ≤ _; omega⟩)
        obtain ⟨y0,y1,y2,y3,y4,y5,y6,y7,y8,y9⟩:=cells10 HK8.out
        have HNEW:=Lib.hid (Rd.newRow w8 57 #[.string id,.string ⟨#[]⟩,.string ⟨#[]⟩,.int .i64 0,.string ⟨#[]⟩,.int .i64 0,.slice none 0 0,.slice none 0 0,.int .i64 0,.int .i64 0,.bool true,.bool true] 1 12 rfl)
        have hb9:Below w8.heap.size w8 (w8.alloc (.cells #[.string id,.string ⟨#[]⟩,.string ⟨#[]⟩,.int .i64 0,.string ⟨#[]⟩,.int .i64 0,.slice none 0 0,.slice none 0 0,.int .i64 0,.int .i64 0,.bool true,.bool true] 57)):=(Below.refl _ _).alloc (Nat.le_refl _) _
        have HST9:=Lib.hid (HST8.out.below hb9)
        have HBE9:=Lib.hid (below_then HST8.out.base HBE8.out hb9)
        have HRW9:=Lib.hid (HRW8.out.below hb9)
        have hbz:w5.heap.size ≤ (w8.alloc (.cells #[.string id,.string ⟨#[]⟩,.string ⟨#[]⟩,.int .i64 0,.string ⟨#[]⟩,.int .i64 0,.slice none 0 0,.slice none 0 0,.int .i64 0,.int .i64 0,.bool true,.bool true] 57)).heap.size:=Nat.le_trans HZ8.out hb9.size
        have HBZ:=Lib.hid hbz
        have HL60:Hid (L.length + 1 ≤ 549755813888):=Lib.hid (by omega)
        clear hb9 hbz HST8 HBE8 HRW8 HBW8 HZ8
        rcases hd1 with ⟨rfl,rfl⟩ | ⟨rfl,rfl⟩
        all_goals
          go_wp2_with (at_builtin; refine appTry _ rfl _ _ rfl w5.heap.size A6 L.length c6 L rfl HRW9.out _ 1 1 [⟨id,EP.zero,true,true⟩] rfl HNEW.out HL60.out HBZ.out ?_; intro A8 c8 w9 hr9 ha9; have HRW10:=Lib.hid hr9; have HST10:=Lib.hid (HST9.out.tried ha9.grown (fun k hk=>HRW9.out.tag hk)); have HBE10:=Lib.hid (HBE9.out.trans ((ha9.below HRW9.out HBZ.out).mono HS4.out.base)); clear hr9 ha9)
          go_roundw
          case rel=>exact ⟨k + 1,X7,s2,A8,c8,L ++ [⟨id,EP.zero,true,true⟩],by omega,by go_num,by rw [List.length_append] <;> rfl,by rw [List.length_append]; exact Nat.succ_le_succ hLk,HD2.out.mono (Nat.le_refl _) (by omega),HFN.out,HTN.out,HEN8.out,HST10.out,HBE10.out,HX7.out,HDD7.out,by rw [List.length_append]; exact HRW10.out⟩
          case measure=>simp [intOf]; omega
      subst hid0
      have HCP:=Lib.hid (kcopy_any q W6 HSM.out.1 (HER.out.below HBW6.out))
      obtain ⟨y0,y1,y2,y3,y4,y5,y6,y7,y8,y9⟩:=cells10 HK6.out
      unfold EP.v entV at HCP
      go_wp2_with fail
      clear y0 y1 y2 y3 y4 y5 y6 y7 y8 y9
      refine HCP.out.mono ?_
      rintro e w7 ⟨⟨E2,A2,c2,X2,d2⟩,hq2,rfl,hr7,hb7⟩
      dsimp only at hq2
      subst hq2
      have HST7:=Lib.hid (HST6.out.below hb7)
      have HBE7:=Lib.hid (below_then HST6.out.base HBE6.out hb7)
      have HBW7:=Lib.hid (below_then HBW6.out.size HBW6.out hb7)
      have HRW7:=Lib.hid (HRW6.out.below hb7)
      have HK7:=Lib.hid (HK6.out.below hb7)
      have HZ7:Hid (w5.heap.size ≤ w7.heap.size):=Lib.hid (Nat.le_trans HZW6.out hb7.size)
      have HPU:=Lib.hid (keepPut_any ⟨q.E,A2,c2,X2,d2⟩ HST7.out HKS.out HFS.out (by omega) HSM.out.1 hr7 (HTA.out.below HBW7.out).2.2)
      dsimp only at HPU
      rw [HXS.out] at HPU
      clear hr7 hb7 HCP HST6 HBE6 HBW6 HRW6 HK6 HZW6
      unfold EP.v entV at HPU
      dsimp only at HPU ⊢
      go_wp2_with fail
      refine HPU.out.mono ?_
      rintro e w8 ⟨rfl,X8,hs8,hw8,hst8,hd8,_⟩
      have HST8:=Lib.hid hs8
      have HBE8:=Lib.hid (HBE7.out.trans (hw8.under (fun k hk=>HST7.out.under hk) HST7.out.base))
      have HBW8:=Lib.hid (HB4.out.trans (HBE8.out.mono HZ1.out))
      have HRW8:=Lib.hid (hw8.row HRW7.out (fun k hk=>HST7.out.offT (HRW7.out.tag hk) (by decide) (by decide) (by decide) (by decide) (by decide) (by decide) (by decide)))
      have HK8:=Lib.hid (hw8.blk HK7.out (HST7.out.offT HK7.out.tag (by decide) (by decide) (by decide) (by decide) (by decide) (by decide) (by decide)))
      have HX8:=Lib.hid (hst8.trans HXS.out)
      have HDD8:=Lib.hid (hd8.trans HXD.out)
      have HZ8:Hid (w5.heap.size ≤ w8.heap.size):=Lib.hid (Nat.le_trans HZ7.out hw8.size)
      have HFN:Hid (D.Fit (3 + 13 * (k + 1)) (s1.put q.E).1.d):=Lib.hid ((S.put_fit HFS.out q.E).mono (by omega))
      clear hs8 hw8 hst8 hd8 HPU HST7 HBE7 HBW7 HRW7 HK7 HZ7 HXS HXD
      rcases HKS.out.put (by omega) (by omega) q.E with ⟨h1,h2⟩ | ⟨h1,h2,h3,h4⟩
      · have h1b:((s1.put q.E).2 == 0) = false:=by simpa using h1
        rw [h2] at HST8 HFN
        clear h2
        go_wp2
        go_roundw
        case rel=>exact ⟨k + 1,X8,s1,A6,c6,L,by omega,by go_num,rfl,by omega,HKS.out.mono (by omega) (by omega),HFN.out,HTS.out,HEN.out,HST8.out,HBE8.out,HX8.out,HDD8.out,HRW8.out⟩
        case measure=>simp [intOf]; omega
      have h1b:((s1.put q.E).2 == 0) = true:=by rw [h1]; rfl
      have HK2:=Lib.hid h3
      have HTN:=Lib.hid (HTS.out.snoc (s':=(s1.put q.E).1) ⟨S.idOf q.E,q,false,true⟩ rfl h4)
      obtain ⟨s2,hs2⟩:∃ s2,(s1.put q.E).1 = s2:=⟨_,rfl⟩
      rw [hs2] at HST8 HFN HK2 HTN
      clear h1 h2 h3 h4 hs2 HKS HFS HTS
      have HEN8:Hid (∀ t ∈ L ++ [(⟨S.idOf q.E,q,false,true⟩:TP)],ERd w t.p ∧ t.id.size ≤ 1099511627776):=Lib.hid (fun t ht=>by
        rcases List.mem_append.1 ht with h | h
        · exact HEN.out t h
        · rw [List.mem_singleton.1 h]
          exact ⟨HER.out,id_size HSM.out.1⟩)
      have HCC:=Lib.hid (fun (u:World) (hu:Below w8.heap.size w8 u)=>cells10 (HK8.out.below hu))
      have HID:=Lib.hid (fun (u:World)=>refId_any q.E.k q.E.v u (by have:=HSM.out.1; unfold EP.small at this; omega) (by have:=HSM.out.1; unfold EP.small at this; omega))
      have hS0:Below w8.heap.size w8 w8.drew:=(Below.refl _ _).drew
      have HL60:Hid (L.length + 1 ≤ 549755813888):=Lib.hid (by omega)
      go_wp2_with fail
      refine wp_region_noPanic ?_
      refine HT.begin (n:=12) (S:=(fun u=>Below w8.heap.size w8 u)) (by kernel_rfl) hS0 ?_
      generalize w8.drew = wd at *
      refine HT.take 0 (.slice A6 L.length c6) rfl (by kernel_rfl) (fun _ _ _ h=>h) (Or.inl ⟨by rfl,?_⟩) (?_:HT _ _ _ _ _ _ _ ⟨#[_,_,_,_,_,_,_,_,_,_,_,_,_,_,_,_,_,_,_,_,_,_,_,_,_,_,_,_,_,_,_,_,_,_,_,_,_,_,_,_,_,_,_,_,_,_,_,_,_,_,_,_,_,_,_,_,_,_,_,_,_,_,_,_,_,_,_,_,_,_,_,_,_,_,_,_,_,_,_,_,_,_,_,_,_,_,_,_,_,_,_,_,_,_,_,_,.slice A6 L.length c6,_,_,_,_,_,_,_,_,_,_,_,_,_,_,_,_,_,_,_,_,_,_,_,_,_,_,_,_,_,_,_,_,_,_,_,_,_,_,_,_,_,_,_,_,_,_,_,_,_,_,_,_,_,_,_,_,_,_,_,_,_,_,_,_,_,_,_,_,_,_,_,_,_,_,_,_,_,_,_,_,_,_,_,_,_,_,_,_,_,_,_,_,_,_,_,_,_,_,_,_,_,_,_,_,_,_,_,_,_,_,_,_],[]⟩ _)
      · intro u hu
        go_simp
      refine HT.take 1 (.pointer (some ⟨kb,0,none⟩)) rfl (by kernel_rfl) (fun _ _ _ h=>h) (Or.inl ⟨by rfl,?_⟩) (?_:HT _ _ _ _ _ _ _ ⟨#[_,_,_,_,_,_,_,_,_,_,_,_,_,_,_,_,_,_,_,_,_,_,_,_,_,_,_,_,_,_,_,_,_,_,_,_,_,_,_,_,_,_,_,_,_,_,_,_,_,_,_,_,_,_,_,_,_,_,_,_,_,_,_,_,_,_,_,_,_,_,_,_,_,_,_,_,_,_,_,_,_,_,_,_,_,_,_,_,_,_,_,_,_,_,_,_,.slice A6 L.length c6,.pointer (some ⟨kb,0,none⟩),_,_,_,_,_,_,_,_,_,_,_,_,_,_,_,_,_,_,_,_,_,_,_,_,_,_,_,_,_,_,_,_,_,_,_,_,_,_,_,_,_,_,_,_,_,_,_,_,_,_,_,_,_,_,_,_,_,_,_,_,_,_,_,_,_,_,_,_,_,_,_,_,_,_,_,_,_,_,_,_,_,_,_,_,_,_,_,_,_,_,_,_,_,_,_,_,_,_,_,_,_,_,_,_,_,_,_,_,_,_,_],[]⟩ _)
      · intro u hu
        go_simp
      refine HT.take 2 (.pointer (some ⟨kb,0,none⟩)) rfl (by kernel_rfl) (fun _ _ _ h=>h) (Or.inl ⟨by rfl,?_⟩) (?_:HT _ _ _ _ _ _ _ ⟨#[_,_,_,_,_,_,_,_,_,_,_,_,_,_,_,_,_,_,_,_,_,_,_,_,_,_,_,_,_,_,_,_,_,_,_,_,_,_,_,_,_,_,_,_,_,_,_,_,_,_,_,_,_,_,_,_,_,_,_,_,_,_,_,_,_,_,_,_,_,_,_,_,_,_,_,_,_,_,_,_,_,_,_,_,_,_,_,_,_,_,_,_,_,_,_,_,.slice A6 L.length c6,.pointer (some ⟨kb,0,none⟩),.pointer (some ⟨kb,0,none⟩),_,_,_,_,_,_,_,_,_,_,_,_,_,_,_,_,_,_,_,_,_,_,_,_,_,_,_,_,_,_,_,_,_,_,_,_,_,_,_,_,_,_,_,_,_,_,_,_,_,_,_,_,_,_,_,_,_,_,_,_,_,_,_,_,_,_,_,_,_,_,_,_,_,_,_,_,_,_,_,_,_,_,_,_,_,_,_,_,_,_,_,_,_,_,_,_,_,_,_,_,_,_,_,_,_,_,_,_,_,_],[]⟩ _)
      · intro u hu
        go_simp
      refine HT.take 3 (.string q.E.k) rfl (by kernel_rfl) (fun _ _ _ h=>h) (Or.inl ⟨by rfl,?_⟩) (?_:HT _ _ _ _ _ _ _ ⟨#[_,_,_,_,_,_,_,_,_,_,_,_,_,_,_,_,_,_,_,_,_,_,_,_,_,_,_,_,_,_,_,_,_,_,_,_,_,_,_,_,_,_,_,_,_,_,_,_,_,_,_,_,_,_,_,_,_,_,_,_,_,_,_,_,_,_,_,_,_,_,_,_,_,_,_,_,_,_,_,_,_,_,_,_,_,_,_,_,_,_,_,_,_,_,_,_,.slice A6 L.length c6,.pointer (some ⟨kb,0,none⟩),.pointer (some ⟨kb,0,none⟩),.string q.E.k,_,_,_,_,_,_,_,_,_,_,_,_,_,_,_,_,_,_,_,_,_,_,_,_,_,_,_,_,_,_,_,_,_,_,_,_,_,_,_,_,_,_,_,_,_,_,_,_,_,_,_,_,_,_,_,_,_,_,_,_,_,_,_,_,_,_,_,_,_,_,_,_,_,_,_,_,_,_,_,_,_,_,_,_,_,_,_,_,_,_,_,_,_,_,_,_,_,_,_,_,_,_,_,_,_,_,_,_,_],[]⟩ _)
      · intro u hu
        obtain ⟨y0,y1,y2,y3,y4,y5,y6,y7,y8,y9⟩:=HCC.out u hu
        go_simp
      refine HT.take 4 (.pointer (some ⟨kb,0,none⟩)) rfl (by kernel_rfl) (fun _ _ _ h=>h) (Or.inl ⟨by rfl,?_⟩) (?_:HT _ _ _ _ _ _ _ ⟨#[_,_,_,_,_,_,_,_,_,_,_,_,_,_,_,_,_,_,_,_,_,_,_,_,_,_,_,_,_,_,_,_,_,_,_,_,_,_,_,_,_,_,_,_,_,_,_,_,_,_,_,_,_,_,_,_,_,_,_,_,_,_,_,_,_,_,_,_,_,_,_,_,_,_,_,_,_,_,_,_,_,_,_,_,_,_,_,_,_,_,_,_,_,_,_,_,.slice A6 L.length c6,.pointer (some ⟨kb,0,none⟩),.pointer (some ⟨kb,0,none⟩),.string q.E.k,.pointer (some ⟨kb,0,none⟩),_,_,_,_,_,_,_,_,_,_,_,_,_,_,_,_,_,_,_,_,_,_,_,_,_,_,_,_,_,_,_,_,_,_,_,_,_,_,_,_,_,_,_,_,_,_,_,_,_,_,_,_,_,_,_,_,_,_,_,_,_,_,_,_,_,_,_,_,_,_,_,_,_,_,_,_,_,_,_,_,_,_,_,_,_,_,_,_,_,_,_,_,_,_,_,_,_,_,_,_,_,_,_,_,_,_,_,_],[]⟩ _)
      · intro u hu
        go_simp
      refine HT.take 5 (.pointer (some ⟨kb,1,none⟩)) rfl (by kernel_rfl) (fun _ _ _ h=>h) (Or.inl ⟨by rfl,?_⟩) (?_:HT _ _ _ _ _ _ _ ⟨#[_,_,_,_,_,_,_,_,_,_,_,_,_,_,_,_,_,_,_,_,_,_,_,_,_,_,_,_,_,_,_,_,_,_,_,_,_,_,_,_,_,_,_,_,_,_,_,_,_,_,_,_,_,_,_,_,_,_,_,_,_,_,_,_,_,_,_,_,_,_,_,_,_,_,_,_,_,_,_,_,_,_,_,_,_,_,_,_,_,_,_,_,_,_,_,_,.slice A6 L.length c6,.pointer (some ⟨kb,0,none⟩),.pointer (some ⟨kb,0,none⟩),.string q.E.k,.pointer (some ⟨kb,0,none⟩),.pointer (some ⟨kb,1,none⟩),_,_,_,_,_,_,_,_,_,_,_,_,_,_,_,_,_,_,_,_,_,_,_,_,_,_,_,_,_,_,_,_,_,_,_,_,_,_,_,_,_,_,_,_,_,_,_,_,_,_,_,_,_,_,_,_,_,_,_,_,_,_,_,_,_,_,_,_,_,_,_,_,_,_,_,_,_,_,_,_,_,_,_,_,_,_,_,_,_,_,_,_,_,_,_,_,_,_,_,_,_,_,_,_,_,_,_],[]⟩ _)
      · intro u hu
        go_simp
      refine HT.take 6 (.string q.E.v) rfl (by kernel_rfl) (fun _ _ _ h=>h) (Or.inl ⟨by rfl,?_⟩) (?_:HT _ _ _ _ _ _ _ ⟨#[_,_,_,_,_,_,_,_,_,_,_,_,_,_,_,_,_,_,_,_,_,_,_,_,_,_,_,_,_,_,_,_,_,_,_,_,_,_,_,_,_,_,_,_,_,_,_,_,_,_,_,_,_,_,_,_,_,_,_,_,_,_,_,_,_,_,_,_,_,_,_,_,_,_,_,_,_,_,_,_,_,_,_,_,_,_,_,_,_,_,_,_,_,_,_,_,.slice A6 L.length c6,.pointer (some ⟨kb,0,none⟩),.pointer (some ⟨kb,0,none⟩),.string q.E.k,.pointer (some ⟨kb,0,none⟩),.pointer (some ⟨kb,1,none⟩),.string q.E.v,_,_,_,_,_,_,_,_,_,_,_,_,_,_,_,_,_,_,_,_,_,_,_,_,_,_,_,_,_,_,_,_,_,_,_,_,_,_,_,_,_,_,_,_,_,_,_,_,_,_,_,_,_,_,_,_,_,_,_,_,_,_,_,_,_,_,_,_,_,_,_,_,_,_,_,_,_,_,_,_,_,_,_,_,_,_,_,_,_,_,_,_,_,_,_,_,_,_,_,_,_,_,_,_,_,_],[]⟩ _)
      · intro u hu
        obtain ⟨y0,y1,y2,y3,y4,y5,y6,y7,y8,y9⟩:=HCC.out u hu
        go_simp
      refine HT.take 8 (.pointer (some ⟨kb,0,none⟩)) rfl (by kernel_rfl) (fun _ _ _ h=>h) (Or.inl ⟨by rfl,?_⟩) (?_:HT _ _ _ _ _ _ _ ⟨#[_,_,_,_,_,_,_,_,_,_,_,_,_,_,_,_,_,_,_,_,_,_,_,_,_,_,_,_,_,_,_,_,_,_,_,_,_,_,_,_,_,_,_,_,_,_,_,_,_,_,_,_,_,_,_,_,_,_,_,_,_,_,_,_,_,_,_,_,_,_,_,_,_,_,_,_,_,_,_,_,_,_,_,_,_,_,_,_,_,_,_,_,_,_,_,_,.slice A6 L.length c6,.pointer (some ⟨kb,0,none⟩),.pointer (some ⟨kb,0,none⟩),.string q.E.k,.pointer (some ⟨kb,0,none⟩),.pointer (some ⟨kb,1,none⟩),.string q.E.v,_,.pointer (some ⟨kb,0,none⟩),_,_,_,_,_,_,_,_,_,_,_,_,_,_,_,_,_,_,_,_,_,_,_,_,_,_,_,_,_,_,_,_,_,_,_,_,_,_,_,_,_,_,_,_,_,_,_,_,_,_,_,_,_,_,_,_,_,_,_,_,_,_,_,_,_,_,_,_,_,_,_,_,_,_,_,_,_,_,_,_,_,_,_,_,_,_,_,_,_,_,_,_,_,_,_,_,_,_,_,_,_,_,_,_],[]⟩ _)
      · intro u hu
        go_simp
      refine HT.take 9 (.agg #[.string q.E.k,.string q.E.v,.int .i64 q.E.s,.string q.E.r,.int .i64 q.E.m,.slice q.A q.E.fs.length q.c,.slice q.X q.E.body.length q.d,.int .i64 q.E.asked,.int .i64 q.E.got]) rfl (by kernel_rfl) (fun _ _ _ h=>h) (Or.inl ⟨by rfl,?_⟩) (?_:HT _ _ _ _ _ _ _ ⟨#[_,_,_,_,_,_,_,_,_,_,_,_,_,_,_,_,_,_,_,_,_,_,_,_,_,_,_,_,_,_,_,_,_,_,_,_,_,_,_,_,_,_,_,_,_,_,_,_,_,_,_,_,_,_,_,_,_,_,_,_,_,_,_,_,_,_,_,_,_,_,_,_,_,_,_,_,_,_,_,_,_,_,_,_,_,_,_,_,_,_,_,_,_,_,_,_,.slice A6 L.length c6,.pointer (some ⟨kb,0,none⟩),.pointer (some ⟨kb,0,none⟩),.string q.E.k,.pointer (some ⟨kb,0,none⟩),.pointer (some ⟨kb,1,none⟩),.string q.E.v,_,.pointer (some ⟨kb,0,none⟩),.agg #[.string q.E.k,.string q.E.v,.int .i64 q.E.s,.string q.E.r,.int .i64 q.E.m,.slice q.A q.E.fs.length q.c,.slice q.X q.E.body.length q.d,.int .i64 q.E.asked,.int .i64 q.E.got],_,_,_,_,_,_,_,_,_,_,_,_,_,_,_,_,_,_,_,_,_,_,_,_,_,_,_,_,_,_,_,_,_,_,_,_,_,_,_,_,_,_,_,_,_,_,_,_,_,_,_,_,_,_,_,_,_,_,_,_,_,_,_,_,_,_,_,_,_,_,_,_,_,_,_,_,_,_,_,_,_,_,_,_,_,_,_,_,_,_,_,_,_,_,_,_,_,_,_,_,_,_,_],[]⟩ _)
      · intro u hu
        obtain ⟨y0,y1,y2,y3,y4,y5,y6,y7,y8,y9⟩:=HCC.out u hu
        go_simp
      refine HT.step 7 rfl (by kernel_rfl) (fun hS K hK=>?_)
      go_simp
      refine (HID.out _).mono ?_
      rintro e w9 ⟨rfl,hb9⟩
      refine hK.out _ _ (below_then hS.size hS hb9) ?_
      clear hK hb9 hS
      refine HT.take 10 (.agg #[.string (q.E.k ++ ⟨#[10]⟩ ++ q.E.v),.string q.E.k,.string q.E.v,.int .i64 q.E.s,.string q.E.r,.int .i64 q.E.m,.slice q.A q.E.fs.length q.c,.slice q.X q.E.body.length q.d,.int .i64 q.E.asked,.int .i64 q.E.got,.bool false,.bool true]) rfl (by kernel_rfl) (fun _ _ _ h=>h) (Or.inl ⟨by rfl,?_⟩) (?_:HT _ _ _ _ _ _ _ ⟨#[_,_,_,_,_,_,_,_,_,_,_,_,_,_,_,_,_,_,_,_,_,_,_,_,_,_,_,_,_,_,_,_,_,_,_,_,_,_,_,_,_,_,_,_,_,_,_,_,_,_,_,_,_,_,_,_,_,_,_,_,_,_,_,_,_,_,_,_,_,_,_,_,_,_,_,_,_,_,_,_,_,_,_,_,_,_,_,_,_,_,_,_,_,_,_,_,.slice A6 L.length c6,.pointer (some ⟨kb,0,none⟩),.pointer (some ⟨kb,0,none⟩),.string q.E.k,.pointer (some ⟨kb,0,none⟩),.pointer (some ⟨kb,1,none⟩),.string q.E.v,.string (q.E.k ++ ⟨#[10]⟩ ++ q.E.v),.pointer (some ⟨kb,0,none⟩),.agg #[.string q.E.k,.string q.E.v,.int .i64 q.E.s,.string q.E.r,.int .i64 q.E.m,.slice q.A q.E.fs.length q.c,.slice q.X q.E.body.length q.d,.int .i64 q.E.asked,.int .i64 q.E.got],.agg #[.string (q.E.k ++ ⟨#[10]⟩ ++ q.E.v),.string q.E.k,.string q.E.v,.int .i64 q.E.s,.string q.E.r,.int .i64 q.E.m,.slice q.A q.E.fs.length q.c,.slice q.X q.E.body.length q.d,.int .i64 q.E.asked,.int .i64 q.E.got,.bool false,.bool true],_,_,_,_,_,_,_,_,_,_,_,_,_,_,_,_,_,_,_,_,_,_,_,_,_,_,_,_,_,_,_,_,_,_,_,_,_,_,_,_,_,_,_,_,_,_,_,_,_,_,_,_,_,_,_,_,_,_,_,_,_,_,_,_,_,_,_,_,_,_,_,_,_,_,_,_,_,_,_,_,_,_,_,_,_,_,_,_,_,_,_,_,_,_,_,_,_,_,_,_,_,_],[]⟩ _)
      · intro u hu
        go_simp
      refine HT.step 11 rfl (by kernel_rfl) (fun hS K hK=>?_)
      go_simp
      refine hK.out _ _ (below_then hS.size hS ((Below.refl _ _).alloc (Nat.le_refl _) _)) ?_
      have HB9:=Lib.hid hS
      clear hK hS
      refine HT.tail _ rfl rfl (by kernel_rfl) (fun hS=>?_)
      clear hS hS0 HID HCC
      have HNEW:=Lib.hid (Rd.newRow w9 57 #[.string (q.E.k ++ ⟨#[10]⟩ ++ q.E.v),.string q.E.k,.string q.E.v,.int .i64 q.E.s,.string q.E.r,.int .i64 q.E.m,.slice q.A q.E.fs.length q.c,.slice q.X q.E.body.length q.d,.int .i64 q.E.asked,.int .i64 q.E.got,.bool false,.bool true] 1 12 rfl)
      have hb9:=below_then HB9.out.size HB9.out ((Below.refl w9.heap.size w9).alloc (Nat.le_refl _) (.cells #[.string (q.E.k ++ ⟨#[10]⟩ ++ q.E.v),.string q.E.k,.string q.E.v,.int .i64 q.E.s,.string q.E.r,.int .i64 q.E.m,.slice q.A q.E.fs.length q.c,.slice q.X q.E.body.length q.d,.int .i64 q.E.asked,.int .i64 q.E.got,.bool false,.bool true] 57))
      have HST9:=Lib.hid (HST8.out.below hb9)
      have HBE9:=Lib.hid (below_then HST8.out.base HBE8.out hb9)
      have HRW9:=Lib.hid (HRW8.out.below hb9)
      have HBZ:Hid (w5.heap.size ≤ (w9.alloc (.cells #[.string (q.E.k ++ ⟨#[10]⟩ ++ q.E.v),.string q.E.k,.string q.E.v,.int .i64 q.E.s,.string q.E.r,.int .i64 q.E.m,.slice q.A q.E.fs.length q.c,.slice q.X q.E.body.length q.d,.int .i64 q.E.asked,.int .i64 q.E.got,.bool false,.bool true] 57)).heap.size):=Lib.hid (Nat.le_trans HZ8.out hb9.size)
      clear hb9 HST8 HBE8 HRW8 HBW8 HZ8 HB9
      refine appTry _ rfl _ _ rfl w5.heap.size A6 L.length c6 L rfl HRW9.out _ 1 1 [⟨S.idOf q.E,q,false,true⟩] rfl HNEW.out HL60.out HBZ.out ?_
      intro A8 c8 w10 hr10 ha10
      have HRW10:=Lib.hid hr10
      have HST10:=Lib.hid (HST9.out.tried ha10.grown (fun k hk=>HRW9.out.tag hk))
      have HBE10:=Lib.hid (HBE9.out.trans ((ha10.below HRW9.out HBZ.out).mono HS4.out.base))
      clear hr10 ha10
      go_wp2
      refine NoPanic.normal ?_
      go_wp2
      go_roundw
      case rel=>exact ⟨k + 1,X8,s2,A8,c8,L ++ [⟨S.idOf q.E,q,false,true⟩],by omega,by go_num,by rw [List.length_append] <;> rfl,by rw [List.length_append]; exact Nat.succ_le_succ hLk,HK2.out.mono (Nat.le_refl _) (by omega),HFN.out,HTN.out,HEN8.out,HST10.out,HBE10.out,HX8.out,HDD8.out,by rw [List.length_append]; exact HRW10.out⟩
      case measure=>simp [intOf]; omega
    · have hke:k = ls.length:=by omega
      have hi60:k ≤ 60:=by omega
      have HDD:=Lib.hid (HXD.out.trans HM3.out)
      rw [← HXS.out]
      clear HXC HRC HSC HKP HFI HTE HS4 HXS HXD HM3 hk
      have hmany:=HKS.out.many
      have hps:s1.d.safe.length + s1.d.pend.length ≤ 1073741824:=by
        have h1:=D.safe_len HFS.out.ok
        have h2:=HFS.out.now
        have h3:=HFS.out.pend
        omega
      have hpk:(s1.d.pend.length:Int) ≤ 1073741824:=by have h3:=HFS.out.pend; omega
      have HLF:=Lib.hid (left_any B1 X1.M s1.d 1073741824 none [] 0 0 wo HST.out.log.disk HFS.out.ok HFS.out.nmd (HFS.out.sml (by omega)) hps rfl (by omega) (Rd.nil _ _ _))
      rw [HDD.out] at HLF
      obtain ⟨f1,f2,f3⟩:=HKS.out.cl.left_fit HFS.out hpk
      obtain ⟨g1,g2⟩:=HKS.out.cl.again (by omega) hpk
      have g3:=HKS.out.cl.again_fit (by omega) HFS.out hpk
      have g4:=HKS.out.few (by omega) g1 g2
      obtain ⟨s2,e1,e2,e3,e4,e5⟩:=HKS.out.open_ (by omega) (by omega) g1 g2
      have g5:D.Fit (3 + 13 * k + 5) s2.d:=by rw [e2]; exact S.tidy_fit g3
      obtain ⟨lf,hlf⟩:∃ lf,s1.d.left 1073741824 [] = lf:=⟨_,rfl⟩
      rw [hlf] at HLF f1 f2 f3 g3 g4 e1
      have HF1:=Lib.hid f1
      have HF3:=Lib.hid f3
      have HG3:=Lib.hid g3
      have HG4:=Lib.hid g4
      have HG5:=Lib.hid g5
      have HE1:=Lib.hid e1
      have HE3:=Lib.hid e3
      have HE5:=Lib.hid e5
      have HE4:Hid (s2.ids = s1.ids):=Lib.hid (by unfold S.Sto.ids; rw [e4])
      have hil:s1.ids.length = s1.tab.length:=by unfold S.Sto.ids; rw [List.length_map]
      have hig:¬ ns < s1.ids.length:=by rw [hil]; omega
      have hi40:s1.ids.length ≤ 1099511627776:=by rw [hil]; omega
      clear f1 f3 g1 g2 g3 g4 g5 e1 e2 e3 e4 e5 hps hpk hlf hil hmany
      go_wp2_with fail
      refine HLF.out.mono ?_
      rintro e w6 ⟨A9,c9,fl,rfl,hfl,hfr,hb6⟩
      clear hlt hke
      have HST6:=Lib.hid (HST.out.below hb6)
      have HBW6:=Lib.hid (below_then HBW.out.size HBW.out hb6)
      have HRW6:=Lib.hid (HRW.out.below hb6)
      have hll:fl.length = lf.length:=by rw [← hfl,List.length_map]
      have HNF:Hid (Calls Tryz.prog 7 #[.slice A9 lf.length c9,.int .i64 1073741824,.slice none 0 0,.int .i64 (-1)] w6 (RetNewF w6 (fl.map FP.x) 1073741824 [] (-1))) :=
        Lib.hid (newF_any fl A9 lf.length c9 none 0 [] 1073741824 (-1) w6 hll (by omega) (hll ▸ hfr.row.rd) (fun p hp=>⟨(hfr.all p hp).rd,fun hA=>(hfr.all p hp).nilB hA,by
          have:=(HF3.out p.x (hfl ▸ List.mem_map_of_mem hp)).1
          change p.nm.size ≤ 64 at this
          omega,by
          have:=(HF3.out p.x (hfl ▸ List.mem_map_of_mem hp)).2
          change p.bs.length ≤ 1073741824 at this
          omega⟩) (fun u _=>(cloneNil_any u).mono (fun e w' h=>⟨none,0,h.1,Row.none_ _ _ _ _,by rw [h.2]; exact Below.refl _ _⟩)) (by omega) (by omega))
      rw [hfl] at HNF
      clear hfl hfr hb6 hll HLF HST HBE HBW HRW HF3
      go_wp2_with fail
      refine HNF.out.mono ?_
      rintro e w7 (⟨hbad,_⟩ | ⟨_,M2,rfl,hd7,hb7⟩)
      · exact absurd (HF1.out.symm.trans hbad) (by decide)
      have HZ6:Hid (w.heap.size ≤ w6.heap.size):=Lib.hid HBW6.out.size
      have HBW7:=Lib.hid (below_then HBW6.out.size HBW6.out hb7)
      have HOP:=Lib.hid (sopen_any w6.heap.size M2 _ (3 + 13 * k) ns w w7 hd7 HG3.out (by omega) hns HTA.out HBW7.out HZ6.out HG4.out)
      rw [HE1.out] at HOP
      have HUN:=Lib.hid (fun k (hk:M2.foot (D.ofFiles lf 1073741824 [] (-1)) k)=>hd7.under hk)
      have HB7:=Lib.hid hb7
      clear hd7 hb7 HNF HF1 HG3 HG4 HE1
      go_wp2_with fail
      refine HOP.out.mono ?_
      rintro e w8 (⟨hbad,_⟩ | ⟨s3,X2,hs3,_,_,rfl,hs8,hw8,_⟩)
      · cases hbad
      obtain rfl:s2 = s3:=Option.some.inj hs3
      have hb8:=HB7.out.trans (hw8.under HUN.out HB7.out.size)
      have HST8:=Lib.hid (HST6.out.below hb8)
      have HRW8:=Lib.hid (HRW6.out.below hb8)
      have HBW8:=Lib.hid (below_then HBW6.out.size HBW6.out hb8)
      have HS8:=Lib.hid hs8
      clear hs3 hs8 hw8 hb8 HOP HST6 HBW6 HRW6 HBW7 HB7 HUN
      generalize w6.heap.size = B2 at *
      have HI2:=Lib.hid (keepIds_any HS8.out HE3.out (by omega))
      rw [HE4.out] at HI2
      go_wp2_with fail
      refine HI2.out.mono ?_
      rintro e w9 ⟨A10,c10,rfl,hr9,hb9⟩
      have HST9:=Lib.hid (HST8.out.below hb9)
      have HRW9:=Lib.hid (HRW8.out.below hb9)
      have HBW9:=Lib.hid (below_then HBW8.out.size HBW8.out hb9)
      have HS9:=Lib.hid (HS8.out.below hb9)
      have HI1:=Lib.hid (keepIds_any HST9.out HKS.out (by omega))
      have HR9:=Lib.hid hr9.rd
      clear hr9 hb9 HI2 HST8 HRW8 HBW8 HS8
      go_wp2_with fail
      refine HI1.out.mono ?_
      rintro e w10 ⟨A11,c11,rfl,hr10,hb10⟩
      have HST10:=Lib.hid (HST9.out.below hb10)
      have HRW10:=Lib.hid (HRW9.out.below hb10)
      have HBW10:=Lib.hid (below_then HBW9.out.size HBW9.out hb10)
      have HS10:=Lib.hid (HS9.out.below hb10)
      have HSA:=Lib.hid (sameTexts_any A10 A11 s1.ids.length c10 c11 s1.ids w10 rfl hi40 (HR9.out.below hb10) hr10.rd)
      clear hr10 hb10 HI1 HST9 HRW9 HBW9 HS9 HR9
      go_wp2_with fail
      refine HSA.out.mono ?_
      rintro e w11 ⟨rfl,hb11⟩
      have HST11:=Lib.hid (HST10.out.below hb11)
      have HRW11:=Lib.hid (HRW10.out.below hb11)
      have HBW11:=Lib.hid (below_then HBW10.out.size HBW10.out hb11)
      have HS11:=Lib.hid (HS10.out.below hb11)
      have HI3:=Lib.hid (keepIds_any HST11.out HKS.out (by omega))
      clear hb11 HSA HST10 HRW10 HBW10 HS10
      go_wp2_with fail
      refine HI3.out.mono ?_
      rintro e w12 ⟨A12,c12,rfl,_,hb12⟩
      have HST12:=Lib.hid (HST11.out.below hb12)
      have HRW12:=Lib.hid (HRW11.out.below hb12)
      have HBW12:=Lib.hid (below_then HBW11.out.size HBW11.out hb12)
      have HS12:=Lib.hid (HS11.out.below hb12)
      clear hb12 HI3 HST11 HRW11 HBW11 HS11
      go_wp2_with fail
      go_loopw [14] (fun j wr=>∃ m:Nat,m ≤ L.length ∧ j = .int .i64 m ∧ Below w12.heap.size w12 wr) (fun j _=>L.length - (intOf j).toNat)
      case atStart=>exact ⟨0,Nat.zero_le _,rfl,Below.refl _ _⟩
      case round =>
        obtain ⟨m,hm,rfl,hbe⟩:=hrel
        have HBE:=Lib.hid hbe
        have HBW:=Lib.hid (below_then HBW12.out.size HBW12.out hbe)
        have HST:=Lib.hid (HST12.out.below hbe)
        have HS2:=Lib.hid (HS12.out.below hbe)
        have HRW:=Lib.hid (HRW12.out.below hbe)
        clear hbe
        obtain ⟨wo,rfl⟩:∃ wo:World,wo = wr:=⟨_,rfl⟩
        by_cases hlt:m < L.length
        rotate_left
        · have hke:m = L.length:=by omega
          subst hke
          go_wp2
          go_ret
          exact ⟨rfl,HBW.out⟩
        obtain ⟨b,o,hA6,hbl,hat⟩:=rd_try HRW.out.rd hlt rfl
        subst hA6
        have hEN:=HEN.out _ (List.getElem_mem hlt)
        obtain ⟨id,hid⟩:∃ id,(L[m]'hlt).id = id:=⟨_,rfl⟩
        have y0:=hat.1
        rw [hid] at hEN y0
        have HY0:=Lib.hid (fun (u:World) (hu:Below wo.heap.size wo u)=>(hu.cell (p:=⟨b,o + m * 12,none⟩) hbl).trans y0)
        have HMU:=Lib.hid (HTS.out.must id)
        have HG1:=Lib.hid (keepGet_any id HST.out HKS.out HFS.out (by omega) hEN.2 (HTA.out.below HBW.out))
        have HG2:=Lib.hid (fun (u:World) (hu:Below wo.heap.size wo u)=>keepGet_any id (HS2.out.below hu) HE3.out HG5.out (by omega) hEN.2 (HTA.out.below (below_then HBW.out.size HBW.out hu)))
        rw [HE5.out] at HG2
        have HGS:=Lib.hid (fun E (h:s1.get id = some E)=>(⟨HTS.out.laid h,get_small h⟩:T.laid L id E ∧ E.fs.length ≤ 1099511627776 ∧ E.body.length ≤ 1099511627776))
        have HRX:=Lib.hid (fun (u:World) (hu:Below wo.heap.size wo u)=>(HRW.out.below hu).rd)
        clear hat hid hEN HRW
        obtain ⟨E,hE⟩:∃ E,(s1.get id).getD O.Ent.zero = E:=⟨_,rfl⟩
        obtain ⟨bo,hbo⟩:∃ bo,(s1.get id).isSome = bo:=⟨_,rfl⟩
        have HBE1:Hid (bo = true → s1.get id = some E):=Lib.hid (fun h=>by
          rw [h] at hbo
          cases hx:s1.get id with
          | none=>rw [hx] at hbo; cases hbo
          | some E1=>rw [hx] at hE; rw [← hE]; rfl)
        rw [hbo] at HMU
        unfold RetGet at HG1 HG2
        rw [hE,hbo] at HG1
        simp only [hE,hbo] at HG2
        clear hE hbo
        go_wp2_with fail
        clear y0
        refine HG1.out.mono ?_
        rintro e w14 ⟨A7,c7,X7,d7,rfl,r1,r2,hb14⟩
        dsimp only [entV] at r1 r2 ⊢
        go_upto_region 32 with fail
        obtain ⟨W14,hW14⟩:∃ W14,w14.alloc (.cells #[.string E.k,.string E.v,.int .i64 E.s,.string E.r,.int .i64 E.m,.slice A7 E.fs.length c7,.slice X7 E.body.length d7,.int .i64 E.asked,.int .i64 E.got] 28) = W14:=⟨_,rfl⟩
        have hk14:Blk W14 w14.heap.size #[.string E.k,.string E.v,.int .i64 E.s,.string E.r,.int .i64 E.m,.slice A7 E.fs.length c7,.slice X7 E.body.length d7,.int .i64 E.asked,.int .i64 E.got] 28:=by rw [← hW14]; exact Blk.new w14 _ _
        have hba:Below w14.heap.size w14 W14:=by rw [← hW14]; exact (Below.refl _ _).alloc (Nat.le_refl _) _
        rw [hW14]
        have hb0:=below_then hb14.size hb14 hba
        have HK14:=Lib.hid hk14
        have HR1:=Lib.hid (ERd.below (⟨r1.rd,r2.rd⟩:ERd w14 ⟨E,A7,c7,X7,d7⟩) hba)
        have HB14:=Lib.hid hb0
        have HGB:=Lib.hid (HG2.out W14 hb0)
        generalize w14.heap.size = b15 at *
        clear r1 r2 hb14 hW14 hk14 hba hb0 HG1 HG2
        have y0:=HY0.out W14 HB14.out
        go_wp2_with fail
        clear y0
        refine HGB.out.mono ?_
        rintro e w15 ⟨A8,c8,X8,d8,rfl,r1,r2,hb15⟩
        dsimp only [entV] at r1 r2 ⊢
        go_upto_region 33 with fail
        obtain ⟨W15,hW15⟩:∃ W15,w15.alloc (.cells #[.string E.k,.string E.v,.int .i64 E.s,.string E.r,.int .i64 E.m,.slice A8 E.fs.length c8,.slice X8 E.body.length d8,.int .i64 E.asked,.int .i64 E.got] 28) = W15:=⟨_,rfl⟩
        have hk15:Blk W15 w15.heap.size #[.string E.k,.string E.v,.int .i64 E.s,.string E.r,.int .i64 E.m,.slice A8 E.fs.length c8,.slice X8 E.body.length d8,.int .i64 E.asked,.int .i64 E.got] 28:=by rw [← hW15]; exact Blk.new w15 _ _
        have hba:Below w15.heap.size w15 W15:=by rw [← hW15]; exact (Below.refl _ _).alloc (Nat.le_refl _) _
        rw [hW15]
        have hb0:=below_then hb15.size hb15 hba
        have hb1:=below_then HB14.out.size HB14.out hb0
        have HC1:=Lib.hid (fun (u:World) (hu:Below W15.heap.size W15 u)=>((HK14.out.below hb0).below hu).cells9)
        have HC2:=Lib.hid (fun (u:World) (hu:Below W15.heap.size W15 u)=>(hk15.below hu).cells9)
        have HR1B:=Lib.hid (fun (u:World) (hu:Below W15.heap.size W15 u)=>ERd.below (ERd.below HR1.out hb0) hu)
        have HR2B:=Lib.hid (fun (u:World) (hu:Below W15.heap.size W15 u)=>(ERd.below (⟨r1.rd,r2.rd⟩:ERd w15 ⟨E,A8,c8,X8,d8⟩) hba).below hu)
        have HYB:=Lib.hid (fun (u:World) (hu:Below W15.heap.size W15 u)=>HY0.out u (below_then hb1.size hb1 hu))
        have HRB:=Lib.hid (fun (u:World) (hu:Below W15.heap.size W15 u)=>HRX.out u (below_then hb1.size hb1 hu))
        have HBX:=Lib.hid (below_then HBE.out.size HBE.out hb1)
        have HBY:=Lib.hid (below_then HBW.out.size HBW.out hb1)
        have HMT:=Lib.hid (fun (u:World) (hu:Below W15.heap.size W15 u)=>must_any (some ⟨b,o,none⟩) L.length c6 L id u rfl (by omega) (HRB.out u hu))
        rw [HMU.out] at HMT
        generalize w15.heap.size = b17 at *
        clear r1 r2 hb15 hW15 hk15 hba hb0 hb1 HGB HK14 HR1 HB14 HY0 HRX HMU HBE HBW HST HS2
        have hS0:Below W15.heap.size W15 W15.drew:=(Below.refl _ _).drew
        cases bo with
        | false =>
          refine wp_region_noPanic ?_
          refine HT.begin (n:=32) (S:=(fun u=>Below W15.heap.size W15 u)) (by kernel_rfl) hS0 ?_
          generalize W15.drew = wd at *
          refine HT.take 0 (.bool false) rfl (by kernel_rfl) (fun _ _ _ h=>h) (Or.inl ⟨by rfl,?_⟩) (?_:HT _ _ _ _ _ _ _ ⟨#[_,_,_,_,_,_,_,_,_,_,_,_,_,_,_,_,_,_,_,_,_,_,_,_,_,_,_,_,_,_,_,_,_,_,_,_,_,_,_,_,_,_,_,_,_,_,_,_,_,_,_,_,_,_,_,_,_,_,_,_,_,_,_,_,_,_,_,_,_,_,_,_,_,_,_,_,_,_,_,_,_,_,_,_,_,_,_,_,_,_,_,_,_,_,_,_,_,_,_,_,_,_,_,_,_,_,_,_,_,_,_,_,_,_,_,_,_,_,_,_,_,_,_,_,_,_,_,_,_,_,_,_,_,_,_,_,_,_,_,_,_,_,_,_,_,_,_,_,_,_,_,_,_,_,_,_,_,_,_,_,_,_,_,_,_,_,_,_,_,_,_,_,_,_,_,.bool false,_,_,_,_,_,_,_,_,_,_,_,_,_,_,_,_,_,_,_,_,_,_,_,_,_,_,_,_,_,_,_,_,_],[]⟩ _)
          · intro u hu
            go_simp
          refine HT.take 1 (.slice (some ⟨b,o,none⟩) L.length c6) rfl (by kernel_rfl) (fun _ _ _ h=>h) (Or.inl ⟨by rfl,?_⟩) (?_:HT _ _ _ _ _ _ _ ⟨#[_,_,_,_,_,_,_,_,_,_,_,_,_,_,_,_,_,_,_,_,_,_,_,_,_,_,_,_,_,_,_,_,_,_,_,_,_,_,_,_,_,_,_,_,_,_,_,_,_,_,_,_,_,_,_,_,_,_,_,_,_,_,_,_,_,_,_,_,_,_,_,_,_,_,_,_,_,_,_,_,_,_,_,_,_,_,_,_,_,_,_,_,_,_,_,_,_,_,_,_,_,_,_,_,_,_,_,_,_,_,_,_,_,_,_,_,_,_,_,_,_,_,_,_,_,_,_,_,_,_,_,_,_,_,_,_,_,_,_,_,_,_,_,_,_,_,_,_,_,_,_,_,_,_,_,_,_,_,_,_,_,_,_,_,_,_,_,_,_,_,_,_,_,_,_,.bool false,.slice (some ⟨b,o,none⟩) L.length c6,_,_,_,_,_,_,_,_,_,_,_,_,_,_,_,_,_,_,_,_,_,_,_,_,_,_,_,_,_,_,_,_],[]⟩ _)
          · intro u hu
            go_simp
          refine HT.take 2 (.slice (some ⟨b,o,none⟩) L.length c6) rfl (by kernel_rfl) (fun _ _ _ h=>h) (Or.inl ⟨by rfl,?_⟩) (?_:HT _ _ _ _ _ _ _ ⟨#[_,_,_,_,_,_,_,_,_,_,_,_,_,_,_,_,_,_,_,_,_,_,_,_,_,_,_,_,_,_,_,_,_,_,_,_,_,_,_,_,_,_,_,_,_,_,_,_,_,_,_,_,_,_,_,_,_,_,_,_,_,_,_,_,_,_,_,_,_,_,_,_,_,_,_,_,_,_,_,_,_,_,_,_,_,_,_,_,_,_,_,_,_,_,_,_,_,_,_,_,_,_,_,_,_,_,_,_,_,_,_,_,_,_,_,_,_,_,_,_,_,_,_,_,_,_,_,_,_,_,_,_,_,_,_,_,_,_,_,_,_,_,_,_,_,_,_,_,_,_,_,_,_,_,_,_,_,_,_,_,_,_,_,_,_,_,_,_,_,_,_,_,_,_,_,.bool false,.slice (some ⟨b,o,none⟩) L.length c6,.slice (some ⟨b,o,none⟩) L.length c6,_,_,_,_,_,_,_,_,_,_,_,_,_,_,_,_,_,_,_,_,_,_,_,_,_,_,_,_,_,_,_],[]⟩ _)
          · intro u hu
            go_simp
          refine HT.take 3 (.int .i64 m) rfl (by kernel_rfl) (fun _ _ _ h=>h) (Or.inl ⟨by rfl,?_⟩) (?_:HT _ _ _ _ _ _ _ ⟨#[_,_,_,_,_,_,_,_,_,_,_,_,_,_,_,_,_,_,_,_,_,_,_,_,_,_,_,_,_,_,_,_,_,_,_,_,_,_,_,_,_,_,_,_,_,_,_,_,_,_,_,_,_,_,_,_,_,_,_,_,_,_,_,_,_,_,_,_,_,_,_,_,_,_,_,_,_,_,_,_,_,_,_,_,_,_,_,_,_,_,_,_,_,_,_,_,_,_,_,_,_,_,_,_,_,_,_,_,_,_,_,_,_,_,_,_,_,_,_,_,_,_,_,_,_,_,_,_,_,_,_,_,_,_,_,_,_,_,_,_,_,_,_,_,_,_,_,_,_,_,_,_,_,_,_,_,_,_,_,_,_,_,_,_,_,_,_,_,_,_,_,_,_,_,_,.bool false,.slice (some ⟨b,o,none⟩) L.length c6,.slice (some ⟨b,o,none⟩) L.length c6,.int .i64 m,_,_,_,_,_,_,_,_,_,_,_,_,_,_,_,_,_,_,_,_,_,_,_,_,_,_,_,_,_,_],[]⟩ _)
          · intro u hu
            go_simp
          refine HT.take 4 (.pointer (some ⟨b,o + m * 12,none⟩)) rfl (by kernel_rfl) (fun _ _ _ h=>h) (Or.inl ⟨by rfl,?_⟩) (?_:HT _ _ _ _ _ _ _ ⟨#[_,_,_,_,_,_,_,_,_,_,_,_,_,_,_,_,_,_,_,_,_,_,_,_,_,_,_,_,_,_,_,_,_,_,_,_,_,_,_,_,_,_,_,_,_,_,_,_,_,_,_,_,_,_,_,_,_,_,_,_,_,_,_,_,_,_,_,_,_,_,_,_,_,_,_,_,_,_,_,_,_,_,_,_,_,_,_,_,_,_,_,_,_,_,_,_,_,_,_,_,_,_,_,_,_,_,_,_,_,_,_,_,_,_,_,_,_,_,_,_,_,_,_,_,_,_,_,_,_,_,_,_,_,_,_,_,_,_,_,_,_,_,_,_,_,_,_,_,_,_,_,_,_,_,_,_,_,_,_,_,_,_,_,_,_,_,_,_,_,_,_,_,_,_,_,.bool false,.slice (some ⟨b,o,none⟩) L.length c6,.slice (some ⟨b,o,none⟩) L.length c6,.int .i64 m,.pointer (some ⟨b,o + m * 12,none⟩),_,_,_,_,_,_,_,_,_,_,_,_,_,_,_,_,_,_,_,_,_,_,_,_,_,_,_,_,_],[]⟩ _)
          · intro u hu
            go_simp
          refine HT.take 5 (.pointer (some ⟨b,o + m * 12,none⟩)) rfl (by kernel_rfl) (fun _ _ _ h=>h) (Or.inl ⟨by rfl,?_⟩) (?_:HT _ _ _ _ _ _ _ ⟨#[_,_,_,_,_,_,_,_,_,_,_,_,_,_,_,_,_,_,_,_,_,_,_,_,_,_,_,_,_,_,_,_,_,_,_,_,_,_,_,_,_,_,_,_,_,_,_,_,_,_,_,_,_,_,_,_,_,_,_,_,_,_,_,_,_,_,_,_,_,_,_,_,_,_,_,_,_,_,_,_,_,_,_,_,_,_,_,_,_,_,_,_,_,_,_,_,_,_,_,_,_,_,_,_,_,_,_,_,_,_,_,_,_,_,_,_,_,_,_,_,_,_,_,_,_,_,_,_,_,_,_,_,_,_,_,_,_,_,_,_,_,_,_,_,_,_,_,_,_,_,_,_,_,_,_,_,_,_,_,_,_,_,_,_,_,_,_,_,_,_,_,_,_,_,_,.bool false,.slice (some ⟨b,o,none⟩) L.length c6,.slice (some ⟨b,o,none⟩) L.length c6,.int .i64 m,.pointer (some ⟨b,o + m * 12,none⟩),.pointer (some ⟨b,o + m * 12,none⟩),_,_,_,_,_,_,_,_,_,_,_,_,_,_,_,_,_,_,_,_,_,_,_,_,_,_,_,_],[]⟩ _)
          · intro u hu
            go_simp
          refine HT.take 6 (.string id) rfl (by kernel_rfl) (fun _ _ _ h=>h) (Or.inl ⟨by rfl,?_⟩) (?_:HT _ _ _ _ _ _ _ ⟨#[_,_,_,_,_,_,_,_,_,_,_,_,_,_,_,_,_,_,_,_,_,_,_,_,_,_,_,_,_,_,_,_,_,_,_,_,_,_,_,_,_,_,_,_,_,_,_,_,_,_,_,_,_,_,_,_,_,_,_,_,_,_,_,_,_,_,_,_,_,_,_,_,_,_,_,_,_,_,_,_,_,_,_,_,_,_,_,_,_,_,_,_,_,_,_,_,_,_,_,_,_,_,_,_,_,_,_,_,_,_,_,_,_,_,_,_,_,_,_,_,_,_,_,_,_,_,_,_,_,_,_,_,_,_,_,_,_,_,_,_,_,_,_,_,_,_,_,_,_,_,_,_,_,_,_,_,_,_,_,_,_,_,_,_,_,_,_,_,_,_,_,_,_,_,_,.bool false,.slice (some ⟨b,o,none⟩) L.length c6,.slice (some ⟨b,o,none⟩) L.length c6,.int .i64 m,.pointer (some ⟨b,o + m * 12,none⟩),.pointer (some ⟨b,o + m * 12,none⟩),.string id,_,_,_,_,_,_,_,_,_,_,_,_,_,_,_,_,_,_,_,_,_,_,_,_,_,_,_],[]⟩ _)
          · intro u hu
            have y0:=HYB.out u hu
            go_simp
          refine HT.step 7 rfl (by kernel_rfl) (fun hS K hK=>?_)
          go_simp
          refine (HMT.out _ hS).mono ?_
          rintro e w16 ⟨rfl,hb16⟩
          refine hK.out _ _ (below_then hS.size hS hb16) ?_
          clear hK hb16 hS
          refine HT.take 8 (.bool false) rfl (by kernel_rfl) (fun _ _ _ h=>h) (Or.inl ⟨by rfl,?_⟩) (?_:HT _ _ _ _ _ _ _ ⟨#[_,_,_,_,_,_,_,_,_,_,_,_,_,_,_,_,_,_,_,_,_,_,_,_,_,_,_,_,_,_,_,_,_,_,_,_,_,_,_,_,_,_,_,_,_,_,_,_,_,_,_,_,_,_,_,_,_,_,_,_,_,_,_,_,_,_,_,_,_,_,_,_,_,_,_,_,_,_,_,_,_,_,_,_,_,_,_,_,_,_,_,_,_,_,_,_,_,_,_,_,_,_,_,_,_,_,_,_,_,_,_,_,_,_,_,_,_,_,_,_,_,_,_,_,_,_,_,_,_,_,_,_,_,_,_,_,_,_,_,_,_,_,_,_,_,_,_,_,_,_,_,_,_,_,_,_,_,_,_,_,_,_,_,_,_,_,_,_,_,_,_,_,_,_,_,.bool false,.slice (some ⟨b,o,none⟩) L.length c6,.slice (some ⟨b,o,none⟩) L.length c6,.int .i64 m,.pointer (some ⟨b,o + m * 12,none⟩),.pointer (some ⟨b,o + m * 12,none⟩),.string id,.bool false,.bool false,_,_,_,_,_,_,_,_,_,_,_,_,_,_,_,_,_,_,_,_,_,_,_,_,_],[]⟩ _)
          · intro u hu
            go_simp
          refine HT.take 9 (.bool false) rfl (by kernel_rfl) (fun _ _ _ h=>h) (Or.inl ⟨by rfl,?_⟩) (?_:HT _ _ _ _ _ _ _ ⟨#[_,_,_,_,_,_,_,_,_,_,_,_,_,_,_,_,_,_,_,_,_,_,_,_,_,_,_,_,_,_,_,_,_,_,_,_,_,_,_,_,_,_,_,_,_,_,_,_,_,_,_,_,_,_,_,_,_,_,_,_,_,_,_,_,_,_,_,_,_,_,_,_,_,_,_,_,_,_,_,_,_,_,_,_,_,_,_,_,_,_,_,_,_,_,_,_,_,_,_,_,_,_,_,_,_,_,_,_,_,_,_,_,_,_,_,_,_,_,_,_,_,_,_,_,_,_,_,_,_,_,_,_,_,_,_,_,_,_,_,_,_,_,_,_,_,_,_,_,_,_,_,_,_,_,_,_,_,_,_,_,_,_,_,_,_,_,_,_,_,_,_,_,_,_,_,.bool false,.slice (some ⟨b,o,none⟩) L.length c6,.slice (some ⟨b,o,none⟩) L.length c6,.int .i64 m,.pointer (some ⟨b,o + m * 12,none⟩),.pointer (some ⟨b,o + m * 12,none⟩),.string id,.bool false,.bool false,.bool false,_,_,_,_,_,_,_,_,_,_,_,_,_,_,_,_,_,_,_,_,_,_,_,_],[]⟩ _)
          · intro u hu
            go_simp
          refine HT.take 10 (.bool false) rfl (by kernel_rfl) (fun _ _ _ h=>h) (Or.inl ⟨by rfl,?_⟩) (?_:HT _ _ _ _ _ _ _ ⟨#[_,_,_,_,_,_,_,_,_,_,_,_,_,_,_,_,_,_,_,_,_,_,_,_,_,_,_,_,_,_,_,_,_,_,_,_,_,_,_,_,_,_,_,_,_,_,_,_,_,_,_,_,_,_,_,_,_,_,_,_,_,_,_,_,_,_,_,_,_,_,_,_,_,_,_,_,_,_,_,_,_,_,_,_,_,_,_,_,_,_,_,_,_,_,_,_,_,_,_,_,_,_,_,_,_,_,_,_,_,_,_,_,_,_,_,_,_,_,_,_,_,_,_,_,_,_,_,_,_,_,_,_,_,_,_,_,_,_,_,_,_,_,_,_,_,_,_,_,_,_,_,_,_,_,_,_,_,_,_,_,_,_,_,_,_,_,_,_,_,_,_,_,_,_,_,.bool false,.slice (some ⟨b,o,none⟩) L.length c6,.slice (some ⟨b,o,none⟩) L.length c6,.int .i64 m,.pointer (some ⟨b,o + m * 12,none⟩),.pointer (some ⟨b,o + m * 12,none⟩),.string id,.bool false,.bool false,.bool false,.bool false,_,_,_,_,_,_,_,_,_,_,_,_,_,_,_,_,_,_,_,_,_,_,_],[]⟩ _)
          · intro u hu
            go_simp
          refine HT.take 11 (.bool false) rfl (by kernel_rfl) (fun _ _ _ h=>h) (Or.inl ⟨by rfl,?_⟩) (?_:HT _ _ _ _ _ _ _ ⟨#[_,_,_,_,_,_,_,_,_,_,_,_,_,_,_,_,_,_,_,_,_,_,_,_,_,_,_,_,_,_,_,_,_,_,_,_,_,_,_,_,_,_,_,_,_,_,_,_,_,_,_,_,_,_,_,_,_,_,_,_,_,_,_,_,_,_,_,_,_,_,_,_,_,_,_,_,_,_,_,_,_,_,_,_,_,_,_,_,_,_,_,_,_,_,_,_,_,_,_,_,_,_,_,_,_,_,_,_,_,_,_,_,_,_,_,_,_,_,_,_,_,_,_,_,_,_,_,_,_,_,_,_,_,_,_,_,_,_,_,_,_,_,_,_,_,_,_,_,_,_,_,_,_,_,_,_,_,_,_,_,_,_,_,_,_,_,_,_,_,_,_,_,_,_,_,.bool false,.slice (some ⟨b,o,none⟩) L.length c6,.slice (some ⟨b,o,none⟩) L.length c6,.int .i64 m,.pointer (some ⟨b,o + m * 12,none⟩),.pointer (some ⟨b,o + m * 12,none⟩),.string id,.bool false,.bool false,.bool false,.bool false,.bool false,_,_,_,_,_,_,_,_,_,_,_,_,_,_,_,_,_,_,_,_,_,_],[]⟩ _)
          · intro u hu
            go_simp
          refine HT.take 12 (.bool false) rfl (by kernel_rfl) (fun _ _ _ h=>h) (Or.inl ⟨by rfl,?_⟩) (?_:HT _ _ _ _ _ _ _ ⟨#[_,_,_,_,_,_,_,_,_,_,_,_,_,_,_,_,_,_,_,_,_,_,_,_,_,_,_,_,_,_,_,_,_,_,_,_,_,_,_,_,_,_,_,_,_,_,_,_,_,_,_,_,_,_,_,_,_,_,_,_,_,_,_,_,_,_,_,_,_,_,_,_,_,_,_,_,_,_,_,_,_,_,_,_,_,_,_,_,_,_,_,_,_,_,_,_,_,_,_,_,_,_,_,_,_,_,_,_,_,_,_,_,_,_,_,_,_,_,_,_,_,_,_,_,_,_,_,_,_,_,_,_,_,_,_,_,_,_,_,_,_,_,_,_,_,_,_,_,_,_,_,_,_,_,_,_,_,_,_,_,_,_,_,_,_,_,_,_,_,_,_,_,_,_,_,.bool false,.slice (some ⟨b,o,none⟩) L.length c6,.slice (some ⟨b,o,none⟩) L.length c6,.int .i64 m,.pointer (some ⟨b,o + m * 12,none⟩),.pointer (some ⟨b,o + m * 12,none⟩),.string id,.bool false,.bool false,.bool false,.bool false,.bool false,.bool false,_,_,_,_,_,_,_,_,_,_,_,_,_,_,_,_,_,_,_,_,_],[]⟩ _)
          · intro u hu
            go_simp
          refine HT.take 13 (.bool false) rfl (by kernel_rfl) (fun _ _ _ h=>h) (Or.inl ⟨by rfl,?_⟩) (?_:HT _ _ _ _ _ _ _ ⟨#[_,_,_,_,_,_,_,_,_,_,_,_,_,_,_,_,_,_,_,_,_,_,_,_,_,_,_,_,_,_,_,_,_,_,_,_,_,_,_,_,_,_,_,_,_,_,_,_,_,_,_,_,_,_,_,_,_,_,_,_,_,_,_,_,_,_,_,_,_,_,_,_,_,_,_,_,_,_,_,_,_,_,_,_,_,_,_,_,_,_,_,_,_,_,_,_,_,_,_,_,_,_,_,_,_,_,_,_,_,_,_,_,_,_,_,_,_,_,_,_,_,_,_,_,_,_,_,_,_,_,_,_,_,_,_,_,_,_,_,_,_,_,_,_,_,_,_,_,_,_,_,_,_,_,_,_,_,_,_,_,_,_,_,_,_,_,_,_,_,_,_,_,_,_,_,.bool false,.slice (some ⟨b,o,none⟩) L.length c6,.slice (some ⟨b,o,none⟩) L.length c6,.int .i64 m,.pointer (some ⟨b,o + m * 12,none⟩),.pointer (some ⟨b,o + m * 12,none⟩),.string id,.bool false,.bool false,.bool false,.bool false,.bool false,.bool false,.bool false,_,_,_,_,_,_,_,_,_,_,_,_,_,_,_,_,_,_,_,_],[]⟩ _)
          · intro u hu
            go_simp
          refine HT.take 14 (.bool false) rfl (by kernel_rfl) (fun _ _ _ h=>h) (Or.inl ⟨by rfl,?_⟩) (?_:HT _ _ _ _ _ _ _ ⟨#[_,_,_,_,_,_,_,_,_,_,_,_,_,_,_,_,_,_,_,_,_,_,_,_,_,_,_,_,_,_,_,_,_,_,_,_,_,_,_,_,_,_,_,_,_,_,_,_,_,_,_,_,_,_,_,_,_,_,_,_,_,_,_,_,_,_,_,_,_,_,_,_,_,_,_,_,_,_,_,_,_,_,_,_,_,_,_,_,_,_,_,_,_,_,_,_,_,_,_,_,_,_,_,_,_,_,_,_,_,_,_,_,_,_,_,_,_,_,_,_,_,_,_,_,_,_,_,_,_,_,_,_,_,_,_,_,_,_,_,_,_,_,_,_,_,_,_,_,_,_,_,_,_,_,_,_,_,_,_,_,_,_,_,_,_,_,_,_,_,_,_,_,_,_,_,.bool false,.slice (some ⟨b,o,none⟩) L.length c6,.slice (some ⟨b,o,none⟩) L.length c6,.int .i64 m,.pointer (some ⟨b,o + m * 12,none⟩),.pointer (some ⟨b,o + m * 12,none⟩),.string id,.bool false,.bool false,.bool false,.bool false,.bool false,.bool false,.bool false,.bool false,_,_,_,_,_,_,_,_,_,_,_,_,_,_,_,_,_,_,_],[]⟩ _)
          · intro u hu
            go_simp
          refine HT.take 15 (.bool false) rfl (by kernel_rfl) (fun _ _ _ h=>h) (Or.inl ⟨by rfl,?_⟩) (?_:HT _ _ _ _ _ _ _ ⟨#[_,_,_,_,_,_,_,_,_,_,_,_,_,_,_,_,_,_,_,_,_,_,_,_,_,_,_,_,_,_,_,_,_,_,_,_,_,_,_,_,_,_,_,_,_,_,_,_,_,_,_,_,_,_,_,_,_,_,_,_,_,_,_,_,_,_,_,_,_,_,_,_,_,_,_,_,_,_,_,_,_,_,_,_,_,_,_,_,_,_,_,_,_,_,_,_,_,_,_,_,_,_,_,_,_,_,_,_,_,_,_,_,_,_,_,_,_,_,_,_,_,_,_,_,_,_,_,_,_,_,_,_,_,_,_,_,_,_,_,_,_,_,_,_,_,_,_,_,_,_,_,_,_,_,_,_,_,_,_,_,_,_,_,_,_,_,_,_,_,_,_,_,_,_,_,.bool false,.slice (some ⟨b,o,none⟩) L.length c6,.slice (some ⟨b,o,none⟩) L.length c6,.int .i64 m,.pointer (some ⟨b,o + m * 12,none⟩),.pointer (some ⟨b,o + m * 12,none⟩),.string id,.bool false,.bool false,.bool false,.bool false,.bool false,.bool false,.bool false,.bool false,.bool false,_,_,_,_,_,_,_,_,_,_,_,_,_,_,_,_,_,_],[]⟩ _)
          · intro u hu
            go_simp
          refine HT.take 16 (.bool false) rfl (by kernel_rfl) (fun _ _ _ h=>h) (Or.inl ⟨by rfl,?_⟩) (?_:HT _ _ _ _ _ _ _ ⟨#[_,_,_,_,_,_,_,_,_,_,_,_,_,_,_,_,_,_,_,_,_,_,_,_,_,_,_,_,_,_,_,_,_,_,_,_,_,_,_,_,_,_,_,_,_,_,_,_,_,_,_,_,_,_,_,_,_,_,_,_,_,_,_,_,_,_,_,_,_,_,_,_,_,_,_,_,_,_,_,_,_,_,_,_,_,_,_,_,_,_,_,_,_,_,_,_,_,_,_,_,_,_,_,_,_,_,_,_,_,_,_,_,_,_,_,_,_,_,_,_,_,_,_,_,_,_,_,_,_,_,_,_,_,_,_,_,_,_,_,_,_,_,_,_,_,_,_,_,_,_,_,_,_,_,_,_,_,_,_,_,_,_,_,_,_,_,_,_,_,_,_,_,_,_,_,.bool false,.slice (some ⟨b,o,none⟩) L.length c6,.slice (some ⟨b,o,none⟩) L.length c6,.int .i64 m,.pointer (some ⟨b,o + m * 12,none⟩),.pointer (some ⟨b,o + m * 12,none⟩),.string id,.bool false,.bool false,.bool false,.bool false,.bool false,.bool false,.bool false,.bool false,.bool false,.bool false,_,_,_,_,_,_,_,_,_,_,_,_,_,_,_,_,_],[]⟩ _)
          · intro u hu
            go_simp
          refine HT.take 17 undef rfl (by kernel_rfl) (fun _ _ _ h=>h) (Or.inr ⟨by rfl,rfl⟩) (?_:HT _ _ _ _ _ _ _ ⟨#[_,_,_,_,_,_,_,_,_,_,_,_,_,_,_,_,_,_,_,_,_,_,_,_,_,_,_,_,_,_,_,_,_,_,_,_,_,_,_,_,_,_,_,_,_,_,_,_,_,_,_,_,_,_,_,_,_,_,_,_,_,_,_,_,_,_,_,_,_,_,_,_,_,_,_,_,_,_,_,_,_,_,_,_,_,_,_,_,_,_,_,_,_,_,_,_,_,_,_,_,_,_,_,_,_,_,_,_,_,_,_,_,_,_,_,_,_,_,_,_,_,_,_,_,_,_,_,_,_,_,_,_,_,_,_,_,_,_,_,_,_,_,_,_,_,_,_,_,_,_,_,_,_,_,_,_,_,_,_,_,_,_,_,_,_,_,_,_,_,_,_,_,_,_,_,.bool false,.slice (some ⟨b,o,none⟩) L.length c6,.slice (some ⟨b,o,none⟩) L.length c6,.int .i64 m,.pointer (some ⟨b,o + m * 12,none⟩),.pointer (some ⟨b,o + m * 12,none⟩),.string id,.bool false,.bool false,.bool false,.bool false,.bool false,.bool false,.bool false,.bool false,.bool false,.bool false,undef,_,_,_,_,_,_,_,_,_,_,_,_,_,_,_,_],[]⟩ _)
          refine HT.take 18 undef rfl (by kernel_rfl) (fun _ _ _ h=>h) (Or.inr ⟨by rfl,rfl⟩) (?_:HT _ _ _ _ _ _ _ ⟨#[_,_,_,_,_,_,_,_,_,_,_,_,_,_,_,_,_,_,_,_,_,_,_,_,_,_,_,_,_,_,_,_,_,_,_,_,_,_,_,_,_,_,_,_,_,_,_,_,_,_,_,_,_,_,_,_,_,_,_,_,_,_,_,_,_,_,_,_,_,_,_,_,_,_,_,_,_,_,_,_,_,_,_,_,_,_,_,_,_,_,_,_,_,_,_,_,_,_,_,_,_,_,_,_,_,_,_,_,_,_,_,_,_,_,_,_,_,_,_,_,_,_,_,_,_,_,_,_,_,_,_,_,_,_,_,_,_,_,_,_,_,_,_,_,_,_,_,_,_,_,_,_,_,_,_,_,_,_,_,_,_,_,_,_,_,_,_,_,_,_,_,_,_,_,_,.bool false,.slice (some ⟨b,o,none⟩) L.length c6,.slice (some ⟨b,o,none⟩) L.length c6,.int .i64 m,.pointer (some ⟨b,o + m * 12,none⟩),.pointer (some ⟨b,o + m * 12,none⟩),.string id,.bool false,.bool false,.bool false,.bool false,.bool false,.bool false,.bool false,.bool false,.bool false,.bool false,undef,undef,_,_,_,_,_,_,_,_,_,_,_,_,_,_,_],[]⟩ _)
          refine HT.take 19 undef rfl (by kernel_rfl) (fun _ _ _ h=>h) (Or.inr ⟨by rfl,rfl⟩) (?_:HT _ _ _ _ _ _ _ ⟨#[_,_,_,_,_,_,_,_,_,_,_,_,_,_,_,_,_,_,_,_,_,_,_,_,_,_,_,_,_,_,_,_,_,_,_,_,_,_,_,_,_,_,_,_,_,_,_,_,_,_,_,_,_,_,_,_,_,_,_,_,_,_,_,_,_,_,_,_,_,_,_,_,_,_,_,_,_,_,_,_,_,_,_,_,_,_,_,_,_,_,_,_,_,_,_,_,_,_,_,_,_,_,_,_,_,_,_,_,_,_,_,_,_,_,_,_,_,_,_,_,_,_,_,_,_,_,_,_,_,_,_,_,_,_,_,_,_,_,_,_,_,_,_,_,_,_,_,_,_,_,_,_,_,_,_,_,_,_,_,_,_,_,_,_,_,_,_,_,_,_,_,_,_,_,_,.bool false,.slice (some ⟨b,o,none⟩) L.length c6,.slice (some ⟨b,o,none⟩) L.length c6,.int .i64 m,.pointer (some ⟨b,o + m * 12,none⟩),.pointer (some ⟨b,o + m * 12,none⟩),.string id,.bool false,.bool false,.bool false,.bool false,.bool false,.bool false,.bool false,.bool false,.bool false,.bool false,undef,undef,undef,_,_,_,_,_,_,_,_,_,_,_,_,_,_],[]⟩ _)
          refine HT.take 20 undef rfl (by kernel_rfl) (fun _ _ _ h=>h) (Or.inr ⟨by rfl,rfl⟩) (?_:HT _ _ _ _ _ _ _ ⟨#[_,_,_,_,_,_,_,_,_,_,_,_,_,_,_,_,_,_,_,_,_,_,_,_,_,_,_,_,_,_,_,_,_,_,_,_,_,_,_,_,_,_,_,_,_,_,_,_,_,_,_,_,_,_,_,_,_,_,_,_,_,_,_,_,_,_,_,_,_,_,_,_,_,_,_,_,_,_,_,_,_,_,_,_,_,_,_,_,_,_,_,_,_,_,_,_,_,_,_,_,_,_,_,_,_,_,_,_,_,_,_,_,_,_,_,_,_,_,_,_,_,_,_,_,_,_,_,_,_,_,_,_,_,_,_,_,_,_,_,_,_,_,_,_,_,_,_,_,_,_,_,_,_,_,_,_,_,_,_,_,_,_,_,_,_,_,_,_,_,_,_,_,_,_,_,.bool false,.slice (some ⟨b,o,none⟩) L.length c6,.slice (some ⟨b,o,none⟩) L.length c6,.int .i64 m,.pointer (some ⟨b,o + m * 12,none⟩),.pointer (some ⟨b,o + m * 12,none⟩),.string id,.bool false,.bool false,.bool false,.bool false,.bool false,.bool false,.bool false,.bool false,.bool false,.bool false,undef,undef,undef,undef,_,_,_,_,_,_,_,_,_,_,_,_,_],[]⟩ _)
          refine HT.take 21 undef rfl (by kernel_rfl) (fun _ _ _ h=>h) (Or.inr ⟨by rfl,rfl⟩) (?_:HT _ _ _ _ _ _ _ ⟨#[_,_,_,_,_,_,_,_,_,_,_,_,_,_,_,_,_,_,_,_,_,_,_,_,_,_,_,_,_,_,_,_,_,_,_,_,_,_,_,_,_,_,_,_,_,_,_,_,_,_,_,_,_,_,_,_,_,_,_,_,_,_,_,_,_,_,_,_,_,_,_,_,_,_,_,_,_,_,_,_,_,_,_,_,_,_,_,_,_,_,_,_,_,_,_,_,_,_,_,_,_,_,_,_,_,_,_,_,_,_,_,_,_,_,_,_,_,_,_,_,_,_,_,_,_,_,_,_,_,_,_,_,_,_,_,_,_,_,_,_,_,_,_,_,_,_,_,_,_,_,_,_,_,_,_,_,_,_,_,_,_,_,_,_,_,_,_,_,_,_,_,_,_,_,_,.bool false,.slice (some ⟨b,o,none⟩) L.length c6,.slice (some ⟨b,o,none⟩) L.length c6,.int .i64 m,.pointer (some ⟨b,o + m * 12,none⟩),.pointer (some ⟨b,o + m * 12,none⟩),.string id,.bool false,.bool false,.bool false,.bool false,.bool false,.bool false,.bool false,.bool false,.bool false,.bool false,undef,undef,undef,undef,undef,_,_,_,_,_,_,_,_,_,_,_,_],[]⟩ _)
          refine HT.take 22 undef rfl (by kernel_rfl) (fun _ _ _ h=>h) (Or.inr ⟨by rfl,rfl⟩) (?_:HT _ _ _ _ _ _ _ ⟨#[_,_,_,_,_,_,_,_,_,_,_,_,_,_,_,_,_,_,_,_,_,_,_,_,_,_,_,_,_,_,_,_,_,_,_,_,_,_,_,_,_,_,_,_,_,_,_,_,_,_,_,_,_,_,_,_,_,_,_,_,_,_,_,_,_,_,_,_,_,_,_,_,_,_,_,_,_,_,_,_,_,_,_,_,_,_,_,_,_,_,_,_,_,_,_,_,_,_,_,_,_,_,_,_,_,_,_,_,_,_,_,_,_,_,_,_,_,_,_,_,_,_,_,_,_,_,_,_,_,_,_,_,_,_,_,_,_,_,_,_,_,_,_,_,_,_,_,_,_,_,_,_,_,_,_,_,_,_,_,_,_,_,_,_,_,_,_,_,_,_,_,_,_,_,_,.bool false,.slice (some ⟨b,o,none⟩) L.length c6,.slice (some ⟨b,o,none⟩) L.length c6,.int .i64 m,.pointer (some ⟨b,o + m * 12,none⟩),.pointer (some ⟨b,o + m * 12,none⟩),.string id,.bool false,.bool false,.bool false,.bool false,.bool false,.bool false,.bool false,.bool false,.bool false,.bool false,undef,undef,undef,undef,undef,undef,_,_,_,_,_,_,_,_,_,_,_],[]⟩ _)
          refine HT.take 23 undef rfl (by kernel_rfl) (fun _ _ _ h=>h) (Or.inr ⟨by rfl,rfl⟩) (?_:HT _ _ _ _ _ _ _ ⟨#[_,_,_,_,_,_,_,_,_,_,_,_,_,_,_,_,_,_,_,_,_,_,_,_,_,_,_,_,_,_,_,_,_,_,_,_,_,_,_,_,_,_,_,_,_,_,_,_,_,_,_,_,_,_,_,_,_,_,_,_,_,_,_,_,_,_,_,_,_,_,_,_,_,_,_,_,_,_,_,_,_,_,_,_,_,_,_,_,_,_,_,_,_,_,_,_,_,_,_,_,_,_,_,_,_,_,_,_,_,_,_,_,_,_,_,_,_,_,_,_,_,_,_,_,_,_,_,_,_,_,_,_,_,_,_,_,_,_,_,_,_,_,_,_,_,_,_,_,_,_,_,_,_,_,_,_,_,_,_,_,_,_,_,_,_,_,_,_,_,_,_,_,_,_,_,.bool false,.slice (some ⟨b,o,none⟩) L.length c6,.slice (some ⟨b,o,none⟩) L.length c6,.int .i64 m,.pointer (some ⟨b,o + m * 12,none⟩),.pointer (some ⟨b,o + m * 12,none⟩),.string id,.bool false,.bool false,.bool false,.bool false,.bool false,.bool false,.bool false,.bool false,.bool false,.bool false,undef,undef,undef,undef,undef,undef,undef,_,_,_,_,_,_,_,_,_,_],[]⟩ _)
          refine HT.take 24 undef rfl (by kernel_rfl) (fun _ _ _ h=>h) (Or.inr ⟨by rfl,rfl⟩) (?_:HT _ _ _ _ _ _ _ ⟨#[_,_,_,_,_,_,_,_,_,_,_,_,_,_,_,_,_,_,_,_,_,_,_,_,_,_,_,_,_,_,_,_,_,_,_,_,_,_,_,_,_,_,_,_,_,_,_,_,_,_,_,_,_,_,_,_,_,_,_,_,_,_,_,_,_,_,_,_,_,_,_,_,_,_,_,_,_,_,_,_,_,_,_,_,_,_,_,_,_,_,_,_,_,_,_,_,_,_,_,_,_,_,_,_,_,_,_,_,_,_,_,_,_,_,_,_,_,_,_,_,_,_,_,_,_,_,_,_,_,_,_,_,_,_,_,_,_,_,_,_,_,_,_,_,_,_,_,_,_,_,_,_,_,_,_,_,_,_,_,_,_,_,_,_,_,_,_,_,_,_,_,_,_,_,_,.bool false,.slice (some ⟨b,o,none⟩) L.length c6,.slice (some ⟨b,o,none⟩) L.length c6,.int .i64 m,.pointer (some ⟨b,o + m * 12,none⟩),.pointer (some ⟨b,o + m * 12,none⟩),.string id,.bool false,.bool false,.bool false,.bool false,.bool false,.bool false,.bool false,.bool false,.bool false,.bool false,undef,undef,undef,undef,undef,undef,undef,undef,_,_,_,_,_,_,_,_,_],[]⟩ _)
          refine HT.take 25 undef rfl (by kernel_rfl) (fun _ _ _ h=>h) (Or.inr ⟨by rfl,rfl⟩) (?_:HT _ _ _ _ _ _ _ ⟨#[_,_,_,_,_,_,_,_,_,_,_,_,_,_,_,_,_,_,_,_,_,_,_,_,_,_,_,_,_,_,_,_,_,_,_,_,_,_,_,_,_,_,_,_,_,_,_,_,_,_,_,_,_,_,_,_,_,_,_,_,_,_,_,_,_,_,_,_,_,_,_,_,_,_,_,_,_,_,_,_,_,_,_,_,_,_,_,_,_,_,_,_,_,_,_,_,_,_,_,_,_,_,_,_,_,_,_,_,_,_,_,_,_,_,_,_,_,_,_,_,_,_,_,_,_,_,_,_,_,_,_,_,_,_,_,_,_,_,_,_,_,_,_,_,_,_,_,_,_,_,_,_,_,_,_,_,_,_,_,_,_,_,_,_,_,_,_,_,_,_,_,_,_,_,_,.bool false,.slice (some ⟨b,o,none⟩) L.length c6,.slice (some ⟨b,o,none⟩) L.length c6,.int .i64 m,.pointer (some ⟨b,o + m * 12,none⟩),.pointer (some ⟨b,o + m * 12,none⟩),.string id,.bool false,.bool false,.bool false,.bool false,.bool false,.bool false,.bool false,.bool false,.bool false,.bool false,undef,undef,undef,undef,undef,undef,undef,undef,undef,_,_,_,_,_,_,_,_],[]⟩ _)
          refine HT.take 26 undef rfl (by kernel_rfl) (fun _ _ _ h=>h) (Or.inr ⟨by rfl,rfl⟩) (?_:HT _ _ _ _ _ _ _ ⟨#[_,_,_,_,_,_,_,_,_,_,_,_,_,_,_,_,_,_,_,_,_,_,_,_,_,_,_,_,_,_,_,_,_,_,_,_,_,_,_,_,_,_,_,_,_,_,_,_,_,_,_,_,_,_,_,_,_,_,_,_,_,_,_,_,_,_,_,_,_,_,_,_,_,_,_,_,_,_,_,_,_,_,_,_,_,_,_,_,_,_,_,_,_,_,_,_,_,_,_,_,_,_,_,_,_,_,_,_,_,_,_,_,_,_,_,_,_,_,_,_,_,_,_,_,_,_,_,_,_,_,_,_,_,_,_,_,_,_,_,_,_,_,_,_,_,_,_,_,_,_,_,_,_,_,_,_,_,_,_,_,_,_,_,_,_,_,_,_,_,_,_,_,_,_,_,.bool false,.slice (some ⟨b,o,none⟩) L.length c6,.slice (some ⟨b,o,none⟩) L.length c6,.int .i64 m,.pointer (some ⟨b,o + m * 12,none⟩),.pointer (some ⟨b,o + m * 12,none⟩),.string id,.bool false,.bool false,.bool false,.bool false,.bool false,.bool false,.bool false,.bool false,.bool false,.bool false,undef,undef,undef,undef,undef,undef,undef,undef,undef,undef,_,_,_,_,_,_,_],[]⟩ _)
          refine HT.take 27 undef rfl (by kernel_rfl) (fun _ _ _ h=>h) (Or.inr ⟨by rfl,rfl⟩) (?_:HT _ _ _ _ _ _ _ ⟨#[_,_,_,_,_,_,_,_,_,_,_,_,_,_,_,_,_,_,_,_,_,_,_,_,_,_,_,_,_,_,_,_,_,_,_,_,_,_,_,_,_,_,_,_,_,_,_,_,_,_,_,_,_,_,_,_,_,_,_,_,_,_,_,_,_,_,_,_,_,_,_,_,_,_,_,_,_,_,_,_,_,_,_,_,_,_,_,_,_,_,_,_,_,_,_,_,_,_,_,_,_,_,_,_,_,_,_,_,_,_,_,_,_,_,_,_,_,_,_,_,_,_,_,_,_,_,_,_,_,_,_,_,_,_,_,_,_,_,_,_,_,_,_,_,_,_,_,_,_,_,_,_,_,_,_,_,_,_,_,_,_,_,_,_,_,_,_,_,_,_,_,_,_,_,_,.bool false,.slice (some ⟨b,o,none⟩) L.length c6,.slice (some ⟨b,o,none⟩) L.length c6,.int .i64 m,.pointer (some ⟨b,o + m * 12,none⟩),.pointer (some ⟨b,o + m * 12,none⟩),.string id,.bool false,.bool false,.bool false,.bool false,.bool false,.bool false,.bool false,.bool false,.bool false,.bool false,undef,undef,undef,undef,undef,undef,undef,undef,undef,undef,undef,_,_,_,_,_,_],[]⟩ _)
          refine HT.take 28 undef rfl (by kernel_rfl) (fun _ _ _ h=>h) (Or.inr ⟨by rfl,rfl⟩) (?_:HT _ _ _ _ _ _ _ ⟨#[_,_,_,_,_,_,_,_,_,_,_,_,_,_,_,_,_,_,_,_,_,_,_,_,_,_,_,_,_,_,_,_,_,_,_,_,_,_,_,_,_,_,_,_,_,_,_,_,_,_,_,_,_,_,_,_,_,_,_,_,_,_,_,_,_,_,_,_,_,_,_,_,_,_,_,_,_,_,_,_,_,_,_,_,_,_,_,_,_,_,_,_,_,_,_,_,_,_,_,_,_,_,_,_,_,_,_,_,_,_,_,_,_,_,_,_,_,_,_,_,_,_,_,_,_,_,_,_,_,_,_,_,_,_,_,_,_,_,_,_,_,_,_,_,_,_,_,_,_,_,_,_,_,_,_,_,_,_,_,_,_,_,_,_,_,_,_,_,_,_,_,_,_,_,_,.bool false,.slice (some ⟨b,o,none⟩) L.length c6,.slice (some ⟨b,o,none⟩) L.length c6,.int .i64 m,.pointer (some ⟨b,o + m * 12,none⟩),.pointer (some ⟨b,o + m * 12,none⟩),.string id,.bool false,.bool false,.bool false,.bool false,.bool false,.bool false,.bool false,.bool false,.bool false,.bool false,undef,undef,undef,undef,undef,undef,undef,undef,undef,undef,undef,undef,_,_,_,_,_],[]⟩ _)
          refine HT.take 29 undef rfl (by kernel_rfl) (fun _ _ _ h=>h) (Or.inr ⟨by rfl,rfl⟩) (?_:HT _ _ _ _ _ _ _ ⟨#[_,_,_,_,_,_,_,_,_,_,_,_,_,_,_,_,_,_,_,_,_,_,_,_,_,_,_,_,_,_,_,_,_,_,_,_,_,_,_,_,_,_,_,_,_,_,_,_,_,_,_,_,_,_,_,_,_,_,_,_,_,_,_,_,_,_,_,_,_,_,_,_,_,_,_,_,_,_,_,_,_,_,_,_,_,_,_,_,_,_,_,_,_,_,_,_,_,_,_,_,_,_,_,_,_,_,_,_,_,_,_,_,_,_,_,_,_,_,_,_,_,_,_,_,_,_,_,_,_,_,_,_,_,_,_,_,_,_,_,_,_,_,_,_,_,_,_,_,_,_,_,_,_,_,_,_,_,_,_,_,_,_,_,_,_,_,_,_,_,_,_,_,_,_,_,.bool false,.slice (some ⟨b,o,none⟩) L.length c6,.slice (some ⟨b,o,none⟩) L.length c6,.int .i64 m,.pointer (some ⟨b,o + m * 12,none⟩),.pointer (some ⟨b,o + m * 12,none⟩),.string id,.bool false,.bool false,.bool false,.bool false,.bool false,.bool false,.bool false,.bool false,.bool false,.bool false,undef,undef,undef,undef,undef,undef,undef,undef,undef,undef,undef,undef,undef,_,_,_,_],[]⟩ _)
          refine HT.take 30 undef rfl (by kernel_rfl) (fun _ _ _ h=>h) (Or.inr ⟨by rfl,rfl⟩) (?_:HT _ _ _ _ _ _ _ ⟨#[_,_,_,_,_,_,_,_,_,_,_,_,_,_,_,_,_,_,_,_,_,_,_,_,_,_,_,_,_,_,_,_,_,_,_,_,_,_,_,_,_,_,_,_,_,_,_,_,_,_,_,_,_,_,_,_,_,_,_,_,_,_,_,_,_,_,_,_,_,_,_,_,_,_,_,_,_,_,_,_,_,_,_,_,_,_,_,_,_,_,_,_,_,_,_,_,_,_,_,_,_,_,_,_,_,_,_,_,_,_,_,_,_,_,_,_,_,_,_,_,_,_,_,_,_,_,_,_,_,_,_,_,_,_,_,_,_,_,_,_,_,_,_,_,_,_,_,_,_,_,_,_,_,_,_,_,_,_,_,_,_,_,_,_,_,_,_,_,_,_,_,_,_,_,_,.bool false,.slice (some ⟨b,o,none⟩) L.length c6,.slice (some ⟨b,o,none⟩) L.length c6,.int .i64 m,.pointer (some ⟨b,o + m * 12,none⟩),.pointer (some ⟨b,o + m * 12,none⟩),.string id,.bool false,.bool false,.bool false,.bool false,.bool false,.bool false,.bool false,.bool false,.bool false,.bool false,undef,undef,undef,undef,undef,undef,undef,undef,undef,undef,undef,undef,undef,undef,_,_,_],[]⟩ _)
          refine HT.take 31 undef rfl (by kernel_rfl) (fun _ _ _ h=>h) (Or.inr ⟨by rfl,rfl⟩) (?_:HT _ _ _ _ _ _ _ ⟨#[_,_,_,_,_,_,_,_,_,_,_,_,_,_,_,_,_,_,_,_,_,_,_,_,_,_,_,_,_,_,_,_,_,_,_,_,_,_,_,_,_,_,_,_,_,_,_,_,_,_,_,_,_,_,_,_,_,_,_,_,_,_,_,_,_,_,_,_,_,_,_,_,_,_,_,_,_,_,_,_,_,_,_,_,_,_,_,_,_,_,_,_,_,_,_,_,_,_,_,_,_,_,_,_,_,_,_,_,_,_,_,_,_,_,_,_,_,_,_,_,_,_,_,_,_,_,_,_,_,_,_,_,_,_,_,_,_,_,_,_,_,_,_,_,_,_,_,_,_,_,_,_,_,_,_,_,_,_,_,_,_,_,_,_,_,_,_,_,_,_,_,_,_,_,_,.bool false,.slice (some ⟨b,o,none⟩) L.length c6,.slice (some ⟨b,o,none⟩) L.length c6,.int .i64 m,.pointer (some ⟨b,o + m * 12,none⟩),.pointer (some ⟨b,o + m * 12,none⟩),.string id,.bool false,.bool false,.bool false,.bool false,.bool false,.bool false,.bool false,.bool false,.bool false,.bool false,undef,undef,undef,undef,undef,undef,undef,undef,undef,undef,undef,undef,undef,undef,undef,_,_],[]⟩ _)
          refine HT.tail _ rfl rfl (by kernel_rfl) (fun hS=>?_)
          have HB18:=Lib.hid hS
          clear hS hS0
          go_wp2_with fail
          refine NoPanic.normal ?_
          go_wp2
          go_roundw
          case rel=>exact ⟨m + 1,by omega,by go_num,below_then HBX.out.size HBX.out HB18.out⟩
          case measure=>simp [intOf]; omega
        | true =>
          obtain ⟨q1,q2,q3⟩:=HGS.out E (HBE1.out rfl)
          have HCO:=Lib.hid (fun (u:World) (hu:Below W15.heap.size W15 u)=>could_any (some ⟨b,o,none⟩) L.length c6 L id ⟨E,A7,c7,X7,d7⟩ u rfl (by omega) q2 q3 (HRB.out u hu) (HR1B.out u hu) (fun t ht=>(HEN.out t ht).1.below (below_then HBY.out.size HBY.out hu)) q1)
          have HSE:=Lib.hid (fun (u:World) (hu:Below W15.heap.size W15 u)=>ksame_any ⟨E,A7,c7,X7,d7⟩ ⟨E,A8,c8,X8,d8⟩ u rfl ⟨q2,q3⟩ (HR1B.out u hu) (HR2B.out u hu))
          unfold EP.v entV at HCO HSE
          dsimp only at HCO HSE
          clear q1 q2 q3
          refine wp_region_noPanic ?_
          refine HT.begin (n:=30) (S:=(fun u=>Below W15.heap.size W15 u)) (by kernel_rfl) hS0 ?_
          generalize W15.drew = wd at *
          refine HT.take 0 (.bool true) rfl (by kernel_rfl) (fun _ _ _ h=>h) (Or.inl ⟨by rfl,?_⟩) (?_:HT _ _ _ _ _ _ _ ⟨#[_,_,_,_,_,_,_,_,_,_,_,_,_,_,_,_,_,_,_,_,_,_,_,_,_,_,_,_,_,_,_,_,_,_,_,_,_,_,_,_,_,_,_,_,_,_,_,_,_,_,_,_,_,_,_,_,_,_,_,_,_,_,_,_,_,_,_,_,_,_,_,_,_,_,_,_,_,_,_,_,_,_,_,_,_,_,_,_,_,_,_,_,_,_,_,_,_,_,_,_,_,_,_,_,_,_,_,_,_,_,_,_,_,_,_,_,_,_,_,_,_,_,_,_,_,_,_,_,_,_,_,_,_,_,_,_,_,_,_,_,_,_,_,_,_,_,_,_,_,_,_,_,_,_,_,_,_,_,_,_,_,_,_,_,_,_,_,_,_,_,_,_,_,_,_,.bool true,_,_,_,_,_,_,_,_,_,_,_,_,_,_,_,_,_,_,_,_,_,_,_,_,_,_,_,_,_,_,_,_,_],[]⟩ _)
          · intro u hu
            go_simp
          refine HT.take 1 (.slice (some ⟨b,o,none⟩) L.length c6) rfl (by kernel_rfl) (fun _ _ _ h=>h) (Or.inl ⟨by rfl,?_⟩) (?_:HT _ _ _ _ _ _ _ ⟨#[_,_,_,_,_,_,_,_,_,_,_,_,_,_,_,_,_,_,_,_,_,_,_,_,_,_,_,_,_,_,_,_,_,_,_,_,_,_,_,_,_,_,_,_,_,_,_,_,_,_,_,_,_,_,_,_,_,_,_,_,_,_,_,_,_,_,_,_,_,_,_,_,_,_,_,_,_,_,_,_,_,_,_,_,_,_,_,_,_,_,_,_,_,_,_,_,_,_,_,_,_,_,_,_,_,_,_,_,_,_,_,_,_,_,_,_,_,_,_,_,_,_,_,_,_,_,_,_,_,_,_,_,_,_,_,_,_,_,_,_,_,_,_,_,_,_,_,_,_,_,_,_,_,_,_,_,_,_,_,_,_,_,_,_,_,_,_,_,_,_,_,_,_,_,_,.bool true,.slice (some ⟨b,o,none⟩) L.length c6,_,_,_,_,_,_,_,_,_,_,_,_,_,_,_,_,_,_,_,_,_,_,_,_,_,_,_,_,_,_,_,_],[]⟩ _)
          · intro u hu
            go_simp
          refine HT.take 2 (.slice (some ⟨b,o,none⟩) L.length c6) rfl (by kernel_rfl) (fun _ _ _ h=>h) (Or.inl ⟨by rfl,?_⟩) (?_:HT _ _ _ _ _ _ _ ⟨#[_,_,_,_,_,_,_,_,_,_,_,_,_,_,_,_,_,_,_,_,_,_,_,_,_,_,_,_,_,_,_,_,_,_,_,_,_,_,_,_,_,_,_,_,_,_,_,_,_,_,_,_,_,_,_,_,_,_,_,_,_,_,_,_,_,_,_,_,_,_,_,_,_,_,_,_,_,_,_,_,_,_,_,_,_,_,_,_,_,_,_,_,_,_,_,_,_,_,_,_,_,_,_,_,_,_,_,_,_,_,_,_,_,_,_,_,_,_,_,_,_,_,_,_,_,_,_,_,_,_,_,_,_,_,_,_,_,_,_,_,_,_,_,_,_,_,_,_,_,_,_,_,_,_,_,_,_,_,_,_,_,_,_,_,_,_,_,_,_,_,_,_,_,_,_,.bool true,.slice (some ⟨b,o,none⟩) L.length c6,.slice (some ⟨b,o,none⟩) L.length c6,_,_,_,_,_,_,_,_,_,_,_,_,_,_,_,_,_,_,_,_,_,_,_,_,_,_,_,_,_,_,_],[]⟩ _)
          · intro u hu
            go_simp
          refine HT.take 3 (.int .i64 m) rfl (by kernel_rfl) (fun _ _ _ h=>h) (Or.inl ⟨by rfl,?_⟩) (?_:HT _ _ _ _ _ _ _ ⟨#[_,_,_,_,_,_,_,_,_,_,_,_,_,_,_,_,_,_,_,_,_,_,_,_,_,_,_,_,_,_,_,_,_,_,_,_,_,_,_,_,_,_,_,_,_,_,_,_,_,_,_,_,_,_,_,_,_,_,_,_,_,_,_,_,_,_,_,_,_,_,_,_,_,_,_,_,_,_,_,_,_,_,_,_,_,_,_,_,_,_,_,_,_,_,_,_,_,_,_,_,_,_,_,_,_,_,_,_,_,_,_,_,_,_,_,_,_,_,_,_,_,_,_,_,_,_,_,_,_,_,_,_,_,_,_,_,_,_,_,_,_,_,_,_,_,_,_,_,_,_,_,_,_,_,_,_,_,_,_,_,_,_,_,_,_,_,_,_,_,_,_,_,_,_,_,.bool true,.slice (some ⟨b,o,none⟩) L.length c6,.slice (some ⟨b,o,none⟩) L.length c6,.int .i64 m,_,_,_,_,_,_,_,_,_,_,_,_,_,_,_,_,_,_,_,_,_,_,_,_,_,_,_,_,_,_],[]⟩ _)
          · intro u hu
            go_simp
          refine HT.take 4 (.pointer (some ⟨b,o + m * 12,none⟩)) rfl (by kernel_rfl) (fun _ _ _ h=>h) (Or.inl ⟨by rfl,?_⟩) (?_:HT _ _ _ _ _ _ _ ⟨#[_,_,_,_,_,_,_,_,_,_,_,_,_,_,_,_,_,_,_,_,_,_,_,_,_,_,_,_,_,_,_,_,_,_,_,_,_,_,_,_,_,_,_,_,_,_,_,_,_,_,_,_,_,_,_,_,_,_,_,_,_,_,_,_,_,_,_,_,_,_,_,_,_,_,_,_,_,_,_,_,_,_,_,_,_,_,_,_,_,_,_,_,_,_,_,_,_,_,_,_,_,_,_,_,_,_,_,_,_,_,_,_,_,_,_,_,_,_,_,_,_,_,_,_,_,_,_,_,_,_,_,_,_,_,_,_,_,_,_,_,_,_,_,_,_,_,_,_,_,_,_,_,_,_,_,_,_,_,_,_,_,_,_,_,_,_,_,_,_,_,_,_,_,_,_,.bool true,.slice (some ⟨b,o,none⟩) L.length c6,.slice (some ⟨b,o,none⟩) L.length c6,.int .i64 m,.pointer (some ⟨b,o + m * 12,none⟩),_,_,_,_,_,_,_,_,_,_,_,_,_,_,_,_,_,_,_,_,_,_,_,_,_,_,_,_,_],[]⟩ _)
          · intro u hu
            go_simp
          refine HT.take 5 (.pointer (some ⟨b,o + m * 12,none⟩)) rfl (by kernel_rfl) (fun _ _ _ h=>h) (Or.inl ⟨by rfl,?_⟩) (?_:HT _ _ _ _ _ _ _ ⟨#[_,_,_,_,_,_,_,_,_,_,_,_,_,_,_,_,_,_,_,_,_,_,_,_,_,_,_,_,_,_,_,_,_,_,_,_,_,_,_,_,_,_,_,_,_,_,_,_,_,_,_,_,_,_,_,_,_,_,_,_,_,_,_,_,_,_,_,_,_,_,_,_,_,_,_,_,_,_,_,_,_,_,_,_,_,_,_,_,_,_,_,_,_,_,_,_,_,_,_,_,_,_,_,_,_,_,_,_,_,_,_,_,_,_,_,_,_,_,_,_,_,_,_,_,_,_,_,_,_,_,_,_,_,_,_,_,_,_,_,_,_,_,_,_,_,_,_,_,_,_,_,_,_,_,_,_,_,_,_,_,_,_,_,_,_,_,_,_,_,_,_,_,_,_,_,.bool true,.slice (some ⟨b,o,none⟩) L.length c6,.slice (some ⟨b,o,none⟩) L.length c6,.int .i64 m,.pointer (some ⟨b,o + m * 12,none⟩),.pointer (some ⟨b,o + m * 12,none⟩),_,_,_,_,_,_,_,_,_,_,_,_,_,_,_,_,_,_,_,_,_,_,_,_,_,_,_,_],[]⟩ _)
          · intro u hu
            go_simp
          refine HT.take 6 (.string id) rfl (by kernel_rfl) (fun _ _ _ h=>h) (Or.inl ⟨by rfl,?_⟩) (?_:HT _ _ _ _ _ _ _ ⟨#[_,_,_,_,_,_,_,_,_,_,_,_,_,_,_,_,_,_,_,_,_,_,_,_,_,_,_,_,_,_,_,_,_,_,_,_,_,_,_,_,_,_,_,_,_,_,_,_,_,_,_,_,_,_,_,_,_,_,_,_,_,_,_,_,_,_,_,_,_,_,_,_,_,_,_,_,_,_,_,_,_,_,_,_,_,_,_,_,_,_,_,_,_,_,_,_,_,_,_,_,_,_,_,_,_,_,_,_,_,_,_,_,_,_,_,_,_,_,_,_,_,_,_,_,_,_,_,_,_,_,_,_,_,_,_,_,_,_,_,_,_,_,_,_,_,_,_,_,_,_,_,_,_,_,_,_,_,_,_,_,_,_,_,_,_,_,_,_,_,_,_,_,_,_,_,.bool true,.slice (some ⟨b,o,none⟩) L.length c6,.slice (some ⟨b,o,none⟩) L.length c6,.int .i64 m,.pointer (some ⟨b,o + m * 12,none⟩),.pointer (some ⟨b,o + m * 12,none⟩),.string id,_,_,_,_,_,_,_,_,_,_,_,_,_,_,_,_,_,_,_,_,_,_,_,_,_,_,_],[]⟩ _)
          · intro u hu
            have y0:=HYB.out u hu
            go_simp
          refine HT.step 7 rfl (by kernel_rfl) (fun hS K hK=>?_)
          go_simp
          refine (HMT.out _ hS).mono ?_
          rintro e w16 ⟨rfl,hb16⟩
          refine hK.out _ _ (below_then hS.size hS hb16) ?_
          clear hK hb16 hS
          refine HT.take 8 (.bool false) rfl (by kernel_rfl) (fun _ _ _ h=>h) (Or.inl ⟨by rfl,?_⟩) (?_:HT _ _ _ _ _ _ _ ⟨#[_,_,_,_,_,_,_,_,_,_,_,_,_,_,_,_,_,_,_,_,_,_,_,_,_,_,_,_,_,_,_,_,_,_,_,_,_,_,_,_,_,_,_,_,_,_,_,_,_,_,_,_,_,_,_,_,_,_,_,_,_,_,_,_,_,_,_,_,_,_,_,_,_,_,_,_,_,_,_,_,_,_,_,_,_,_,_,_,_,_,_,_,_,_,_,_,_,_,_,_,_,_,_,_,_,_,_,_,_,_,_,_,_,_,_,_,_,_,_,_,_,_,_,_,_,_,_,_,_,_,_,_,_,_,_,_,_,_,_,_,_,_,_,_,_,_,_,_,_,_,_,_,_,_,_,_,_,_,_,_,_,_,_,_,_,_,_,_,_,_,_,_,_,_,_,.bool true,.slice (some ⟨b,o,none⟩) L.length c6,.slice (some ⟨b,o,none⟩) L.length c6,.int .i64 m,.pointer (some ⟨b,o + m * 12,none⟩),.pointer (some ⟨b,o + m * 12,none⟩),.string id,.bool true,.bool false,_,_,_,_,_,_,_,_,_,_,_,_,_,_,_,_,_,_,_,_,_,_,_,_,_],[]⟩ _)
          · intro u hu
            go_simp
          refine HT.take 9 (.bool false) rfl (by kernel_rfl) (fun _ _ _ h=>h) (Or.inl ⟨by rfl,?_⟩) (?_:HT _ _ _ _ _ _ _ ⟨#[_,_,_,_,_,_,_,_,_,_,_,_,_,_,_,_,_,_,_,_,_,_,_,_,_,_,_,_,_,_,_,_,_,_,_,_,_,_,_,_,_,_,_,_,_,_,_,_,_,_,_,_,_,_,_,_,_,_,_,_,_,_,_,_,_,_,_,_,_,_,_,_,_,_,_,_,_,_,_,_,_,_,_,_,_,_,_,_,_,_,_,_,_,_,_,_,_,_,_,_,_,_,_,_,_,_,_,_,_,_,_,_,_,_,_,_,_,_,_,_,_,_,_,_,_,_,_,_,_,_,_,_,_,_,_,_,_,_,_,_,_,_,_,_,_,_,_,_,_,_,_,_,_,_,_,_,_,_,_,_,_,_,_,_,_,_,_,_,_,_,_,_,_,_,_,.bool true,.slice (some ⟨b,o,none⟩) L.length c6,.slice (some ⟨b,o,none⟩) L.length c6,.int .i64 m,.pointer (some ⟨b,o + m * 12,none⟩),.pointer (some ⟨b,o + m * 12,none⟩),.string id,.bool true,.bool false,.bool false,_,_,_,_,_,_,_,_,_,_,_,_,_,_,_,_,_,_,_,_,_,_,_,_],[]⟩ _)
          · intro u hu
            go_simp
          refine HT.take 10 (.bool true) rfl (by kernel_rfl) (fun _ _ _ h=>h) (Or.inl ⟨by rfl,?_⟩) (?_:HT _ _ _ _ _ _ _ ⟨#[_,_,_,_,_,_,_,_,_,_,_,_,_,_,_,_,_,_,_,_,_,_,_,_,_,_,_,_,_,_,_,_,_,_,_,_,_,_,_,_,_,_,_,_,_,_,_,_,_,_,_,_,_,_,_,_,_,_,_,_,_,_,_,_,_,_,_,_,_,_,_,_,_,_,_,_,_,_,_,_,_,_,_,_,_,_,_,_,_,_,_,_,_,_,_,_,_,_,_,_,_,_,_,_,_,_,_,_,_,_,_,_,_,_,_,_,_,_,_,_,_,_,_,_,_,_,_,_,_,_,_,_,_,_,_,_,_,_,_,_,_,_,_,_,_,_,_,_,_,_,_,_,_,_,_,_,_,_,_,_,_,_,_,_,_,_,_,_,_,_,_,_,_,_,_,.bool true,.slice (some ⟨b,o,none⟩) L.length c6,.slice (some ⟨b,o,none⟩) L.length c6,.int .i64 m,.pointer (some ⟨b,o + m * 12,none⟩),.pointer (some ⟨b,o + m * 12,none⟩),.string id,.bool true,.bool false,.bool false,.bool true,_,_,_,_,_,_,_,_,_,_,_,_,_,_,_,_,_,_,_,_,_,_,_],[]⟩ _)
          · intro u hu
            go_simp
          refine HT.take 11 (.bool true) rfl (by kernel_rfl) (fun _ _ _ h=>h) (Or.inl ⟨by rfl,?_⟩) (?_:HT _ _ _ _ _ _ _ ⟨#[_,_,_,_,_,_,_,_,_,_,_,_,_,_,_,_,_,_,_,_,_,_,_,_,_,_,_,_,_,_,_,_,_,_,_,_,_,_,_,_,_,_,_,_,_,_,_,_,_,_,_,_,_,_,_,_,_,_,_,_,_,_,_,_,_,_,_,_,_,_,_,_,_,_,_,_,_,_,_,_,_,_,_,_,_,_,_,_,_,_,_,_,_,_,_,_,_,_,_,_,_,_,_,_,_,_,_,_,_,_,_,_,_,_,_,_,_,_,_,_,_,_,_,_,_,_,_,_,_,_,_,_,_,_,_,_,_,_,_,_,_,_,_,_,_,_,_,_,_,_,_,_,_,_,_,_,_,_,_,_,_,_,_,_,_,_,_,_,_,_,_,_,_,_,_,.bool true,.slice (some ⟨b,o,none⟩) L.length c6,.slice (some ⟨b,o,none⟩) L.length c6,.int .i64 m,.pointer (some ⟨b,o + m * 12,none⟩),.pointer (some ⟨b,o + m * 12,none⟩),.string id,.bool true,.bool false,.bool false,.bool true,.bool true,_,_,_,_,_,_,_,_,_,_,_,_,_,_,_,_,_,_,_,_,_,_],[]⟩ _)
          · intro u hu
            go_simp
          refine HT.take 12 (.bool false) rfl (by kernel_rfl) (fun _ _ _ h=>h) (Or.inl ⟨by rfl,?_⟩) (?_:HT _ _ _ _ _ _ _ ⟨#[_,_,_,_,_,_,_,_,_,_,_,_,_,_,_,_,_,_,_,_,_,_,_,_,_,_,_,_,_,_,_,_,_,_,_,_,_,_,_,_,_,_,_,_,_,_,_,_,_,_,_,_,_,_,_,_,_,_,_,_,_,_,_,_,_,_,_,_,_,_,_,_,_,_,_,_,_,_,_,_,_,_,_,_,_,_,_,_,_,_,_,_,_,_,_,_,_,_,_,_,_,_,_,_,_,_,_,_,_,_,_,_,_,_,_,_,_,_,_,_,_,_,_,_,_,_,_,_,_,_,_,_,_,_,_,_,_,_,_,_,_,_,_,_,_,_,_,_,_,_,_,_,_,_,_,_,_,_,_,_,_,_,_,_,_,_,_,_,_,_,_,_,_,_,_,.bool true,.slice (some ⟨b,o,none⟩) L.length c6,.slice (some ⟨b,o,none⟩) L.length c6,.int .i64 m,.pointer (some ⟨b,o + m * 12,none⟩),.pointer (some ⟨b,o + m * 12,none⟩),.string id,.bool true,.bool false,.bool false,.bool true,.bool true,.bool false,_,_,_,_,_,_,_,_,_,_,_,_,_,_,_,_,_,_,_,_,_],[]⟩ _)
          · intro u hu
            go_simp
          refine HT.take 13 (.bool false) rfl (by kernel_rfl) (fun _ _ _ h=>h) (Or.inl ⟨by rfl,?_⟩) (?_:HT _ _ _ _ _ _ _ ⟨#[_,_,_,_,_,_,_,_,_,_,_,_,_,_,_,_,_,_,_,_,_,_,_,_,_,_,_,_,_,_,_,_,_,_,_,_,_,_,_,_,_,_,_,_,_,_,_,_,_,_,_,_,_,_,_,_,_,_,_,_,_,_,_,_,_,_,_,_,_,_,_,_,_,_,_,_,_,_,_,_,_,_,_,_,_,_,_,_,_,_,_,_,_,_,_,_,_,_,_,_,_,_,_,_,_,_,_,_,_,_,_,_,_,_,_,_,_,_,_,_,_,_,_,_,_,_,_,_,_,_,_,_,_,_,_,_,_,_,_,_,_,_,_,_,_,_,_,_,_,_,_,_,_,_,_,_,_,_,_,_,_,_,_,_,_,_,_,_,_,_,_,_,_,_,_,.bool true,.slice (some ⟨b,o,none⟩) L.length c6,.slice (some ⟨b,o,none⟩) L.length c6,.int .i64 m,.pointer (some ⟨b,o + m * 12,none⟩),.pointer (some ⟨b,o + m * 12,none⟩),.string id,.bool true,.bool false,.bool false,.bool true,.bool true,.bool false,.bool false,_,_,_,_,_,_,_,_,_,_,_,_,_,_,_,_,_,_,_,_],[]⟩ _)
          · intro u hu
            go_simp
          refine HT.take 14 (.bool false) rfl (by kernel_rfl) (fun _ _ _ h=>h) (Or.inl ⟨by rfl,?_⟩) (?_:HT _ _ _ _ _ _ _ ⟨#[_,_,_,_,_,_,_,_,_,_,_,_,_,_,_,_,_,_,_,_,_,_,_,_,_,_,_,_,_,_,_,_,_,_,_,_,_,_,_,_,_,_,_,_,_,_,_,_,_,_,_,_,_,_,_,_,_,_,_,_,_,_,_,_,_,_,_,_,_,_,_,_,_,_,_,_,_,_,_,_,_,_,_,_,_,_,_,_,_,_,_,_,_,_,_,_,_,_,_,_,_,_,_,_,_,_,_,_,_,_,_,_,_,_,_,_,_,_,_,_,_,_,_,_,_,_,_,_,_,_,_,_,_,_,_,_,_,_,_,_,_,_,_,_,_,_,_,_,_,_,_,_,_,_,_,_,_,_,_,_,_,_,_,_,_,_,_,_,_,_,_,_,_,_,_,.bool true,.slice (some ⟨b,o,none⟩) L.length c6,.slice (some ⟨b,o,none⟩) L.length c6,.int .i64 m,.pointer (some ⟨b,o + m * 12,none⟩),.pointer (some ⟨b,o + m * 12,none⟩),.string id,.bool true,.bool false,.bool false,.bool true,.bool true,.bool false,.bool false,.bool false,_,_,_,_,_,_,_,_,_,_,_,_,_,_,_,_,_,_,_],[]⟩ _)
          · intro u hu
            go_simp
          refine HT.take 15 (.bool true) rfl (by kernel_rfl) (fun _ _ _ h=>h) (Or.inl ⟨by rfl,?_⟩) (?_:HT _ _ _ _ _ _ _ ⟨#[_,_,_,_,_,_,_,_,_,_,_,_,_,_,_,_,_,_,_,_,_,_,_,_,_,_,_,_,_,_,_,_,_,_,_,_,_,_,_,_,_,_,_,_,_,_,_,_,_,_,_,_,_,_,_,_,_,_,_,_,_,_,_,_,_,_,_,_,_,_,_,_,_,_,_,_,_,_,_,_,_,_,_,_,_,_,_,_,_,_,_,_,_,_,_,_,_,_,_,_,_,_,_,_,_,_,_,_,_,_,_,_,_,_,_,_,_,_,_,_,_,_,_,_,_,_,_,_,_,_,_,_,_,_,_,_,_,_,_,_,_,_,_,_,_,_,_,_,_,_,_,_,_,_,_,_,_,_,_,_,_,_,_,_,_,_,_,_,_,_,_,_,_,_,_,.bool true,.slice (some ⟨b,o,none⟩) L.length c6,.slice (some ⟨b,o,none⟩) L.length c6,.int .i64 m,.pointer (some ⟨b,o + m * 12,none⟩),.pointer (some ⟨b,o + m * 12,none⟩),.string id,.bool true,.bool false,.bool false,.bool true,.bool true,.bool false,.bool false,.bool false,.bool true,_,_,_,_,_,_,_,_,_,_,_,_,_,_,_,_,_,_],[]⟩ _)
          · intro u hu
            go_simp
          refine HT.take 16 (.bool true) rfl (by kernel_rfl) (fun _ _ _ h=>h) (Or.inl ⟨by rfl,?_⟩) (?_:HT _ _ _ _ _ _ _ ⟨#[_,_,_,_,_,_,_,_,_,_,_,_,_,_,_,_,_,_,_,_,_,_,_,_,_,_,_,_,_,_,_,_,_,_,_,_,_,_,_,_,_,_,_,_,_,_,_,_,_,_,_,_,_,_,_,_,_,_,_,_,_,_,_,_,_,_,_,_,_,_,_,_,_,_,_,_,_,_,_,_,_,_,_,_,_,_,_,_,_,_,_,_,_,_,_,_,_,_,_,_,_,_,_,_,_,_,_,_,_,_,_,_,_,_,_,_,_,_,_,_,_,_,_,_,_,_,_,_,_,_,_,_,_,_,_,_,_,_,_,_,_,_,_,_,_,_,_,_,_,_,_,_,_,_,_,_,_,_,_,_,_,_,_,_,_,_,_,_,_,_,_,_,_,_,_,.bool true,.slice (some ⟨b,o,none⟩) L.length c6,.slice (some ⟨b,o,none⟩) L.length c6,.int .i64 m,.pointer (some ⟨b,o + m * 12,none⟩),.pointer (some ⟨b,o + m * 12,none⟩),.string id,.bool true,.bool false,.bool false,.bool true,.bool true,.bool false,.bool false,.bool false,.bool true,.bool true,_,_,_,_,_,_,_,_,_,_,_,_,_,_,_,_,_],[]⟩ _)
          · intro u hu
            go_simp
          refine HT.take 17 (.slice (some ⟨b,o,none⟩) L.length c6) rfl (by kernel_rfl) (fun _ _ _ h=>h) (Or.inl ⟨by rfl,?_⟩) (?_:HT _ _ _ _ _ _ _ ⟨#[_,_,_,_,_,_,_,_,_,_,_,_,_,_,_,_,_,_,_,_,_,_,_,_,_,_,_,_,_,_,_,_,_,_,_,_,_,_,_,_,_,_,_,_,_,_,_,_,_,_,_,_,_,_,_,_,_,_,_,_,_,_,_,_,_,_,_,_,_,_,_,_,_,_,_,_,_,_,_,_,_,_,_,_,_,_,_,_,_,_,_,_,_,_,_,_,_,_,_,_,_,_,_,_,_,_,_,_,_,_,_,_,_,_,_,_,_,_,_,_,_,_,_,_,_,_,_,_,_,_,_,_,_,_,_,_,_,_,_,_,_,_,_,_,_,_,_,_,_,_,_,_,_,_,_,_,_,_,_,_,_,_,_,_,_,_,_,_,_,_,_,_,_,_,_,.bool true,.slice (some ⟨b,o,none⟩) L.length c6,.slice (some ⟨b,o,none⟩) L.length c6,.int .i64 m,.pointer (some ⟨b,o + m * 12,none⟩),.pointer (some ⟨b,o + m * 12,none⟩),.string id,.bool true,.bool false,.bool false,.bool true,.bool true,.bool false,.bool false,.bool false,.bool true,.bool true,.slice (some ⟨b,o,none⟩) L.length c6,_,_,_,_,_,_,_,_,_,_,_,_,_,_,_,_],[]⟩ _)
          · intro u hu
            go_simp
          refine HT.take 18 (.slice (some ⟨b,o,none⟩) L.length c6) rfl (by kernel_rfl) (fun _ _ _ h=>h) (Or.inl ⟨by rfl,?_⟩) (?_:HT _ _ _ _ _ _ _ ⟨#[_,_,_,_,_,_,_,_,_,_,_,_,_,_,_,_,_,_,_,_,_,_,_,_,_,_,_,_,_,_,_,_,_,_,_,_,_,_,_,_,_,_,_,_,_,_,_,_,_,_,_,_,_,_,_,_,_,_,_,_,_,_,_,_,_,_,_,_,_,_,_,_,_,_,_,_,_,_,_,_,_,_,_,_,_,_,_,_,_,_,_,_,_,_,_,_,_,_,_,_,_,_,_,_,_,_,_,_,_,_,_,_,_,_,_,_,_,_,_,_,_,_,_,_,_,_,_,_,_,_,_,_,_,_,_,_,_,_,_,_,_,_,_,_,_,_,_,_,_,_,_,_,_,_,_,_,_,_,_,_,_,_,_,_,_,_,_,_,_,_,_,_,_,_,_,.bool true,.slice (some ⟨b,o,none⟩) L.length c6,.slice (some ⟨b,o,none⟩) L.length c6,.int .i64 m,.pointer (some ⟨b,o + m * 12,none⟩),.pointer (some ⟨b,o + m * 12,none⟩),.string id,.bool true,.bool false,.bool false,.bool true,.bool true,.bool false,.bool false,.bool false,.bool true,.bool true,.slice (some ⟨b,o,none⟩) L.length c6,.slice (some ⟨b,o,none⟩) L.length c6,_,_,_,_,_,_,_,_,_,_,_,_,_,_,_],[]⟩ _)
          · intro u hu
            go_simp
          refine HT.take 19 (.int .i64 m) rfl (by kernel_rfl) (fun _ _ _ h=>h) (Or.inl ⟨by rfl,?_⟩) (?_:HT _ _ _ _ _ _ _ ⟨#[_,_,_,_,_,_,_,_,_,_,_,_,_,_,_,_,_,_,_,_,_,_,_,_,_,_,_,_,_,_,_,_,_,_,_,_,_,_,_,_,_,_,_,_,_,_,_,_,_,_,_,_,_,_,_,_,_,_,_,_,_,_,_,_,_,_,_,_,_,_,_,_,_,_,_,_,_,_,_,_,_,_,_,_,_,_,_,_,_,_,_,_,_,_,_,_,_,_,_,_,_,_,_,_,_,_,_,_,_,_,_,_,_,_,_,_,_,_,_,_,_,_,_,_,_,_,_,_,_,_,_,_,_,_,_,_,_,_,_,_,_,_,_,_,_,_,_,_,_,_,_,_,_,_,_,_,_,_,_,_,_,_,_,_,_,_,_,_,_,_,_,_,_,_,_,.bool true,.slice (some ⟨b,o,none⟩) L.length c6,.slice (some ⟨b,o,none⟩) L.length c6,.int .i64 m,.pointer (some ⟨b,o + m * 12,none⟩),.pointer (some ⟨b,o + m * 12,none⟩),.string id,.bool true,.bool false,.bool false,.bool true,.bool true,.bool false,.bool false,.bool false,.bool true,.bool true,.slice (some ⟨b,o,none⟩) L.length c6,.slice (some ⟨b,o,none⟩) L.length c6,.int .i64 m,_,_,_,_,_,_,_,_,_,_,_,_,_,_],[]⟩ _)
          · intro u hu
            go_simp
          refine HT.take 20 (.pointer (some ⟨b,o + m * 12,none⟩)) rfl (by kernel_rfl) (fun _ _ _ h=>h) (Or.inl ⟨by rfl,?_⟩) (?_:HT _ _ _ _ _ _ _ ⟨#[_,_,_,_,_,_,_,_,_,_,_,_,_,_,_,_,_,_,_,_,_,_,_,_,_,_,_,_,_,_,_,_,_,_,_,_,_,_,_,_,_,_,_,_,_,_,_,_,_,_,_,_,_,_,_,_,_,_,_,_,_,_,_,_,_,_,_,_,_,_,_,_,_,_,_,_,_,_,_,_,_,_,_,_,_,_,_,_,_,_,_,_,_,_,_,_,_,_,_,_,_,_,_,_,_,_,_,_,_,_,_,_,_,_,_,_,_,_,_,_,_,_,_,_,_,_,_,_,_,_,_,_,_,_,_,_,_,_,_,_,_,_,_,_,_,_,_,_,_,_,_,_,_,_,_,_,_,_,_,_,_,_,_,_,_,_,_,_,_,_,_,_,_,_,_,.bool true,.slice (some ⟨b,o,none⟩) L.length c6,.slice (some ⟨b,o,none⟩) L.length c6,.int .i64 m,.pointer (some ⟨b,o + m * 12,none⟩),.pointer (some ⟨b,o + m * 12,none⟩),.string id,.bool true,.bool false,.bool false,.bool true,.bool true,.bool false,.bool false,.bool false,.bool true,.bool true,.slice (some ⟨b,o,none⟩) L.length c6,.slice (some ⟨b,o,none⟩) L.length c6,.int .i64 m,.pointer (some ⟨b,o + m * 12,none⟩),_,_,_,_,_,_,_,_,_,_,_,_,_],[]⟩ _)
          · intro u hu
            go_simp
          refine HT.take 21 (.pointer (some ⟨b,o + m * 12,none⟩)) rfl (by kernel_rfl) (fun _ _ _ h=>h) (Or.inl ⟨by rfl,?_⟩) (?_:HT _ _ _ _ _ _ _ ⟨#[_,_,_,_,_,_,_,_,_,_,_,_,_,_,_,_,_,_,_,_,_,_,_,_,_,_,_,_,_,_,_,_,_,_,_,_,_,_,_,_,_,_,_,_,_,_,_,_,_,_,_,_,_,_,_,_,_,_,_,_,_,_,_,_,_,_,_,_,_,_,_,_,_,_,_,_,_,_,_,_,_,_,_,_,_,_,_,_,_,_,_,_,_,_,_,_,_,_,_,_,_,_,_,_,_,_,_,_,_,_,_,_,_,_,_,_,_,_,_,_,_,_,_,_,_,_,_,_,_,_,_,_,_,_,_,_,_,_,_,_,_,_,_,_,_,_,_,_,_,_,_,_,_,_,_,_,_,_,_,_,_,_,_,_,_,_,_,_,_,_,_,_,_,_,_,.bool true,.slice (some ⟨b,o,none⟩) L.length c6,.slice (some ⟨b,o,none⟩) L.length c6,.int .i64 m,.pointer (some ⟨b,o + m * 12,none⟩),.pointer (some ⟨b,o + m * 12,none⟩),.string id,.bool true,.bool false,.bool false,.bool true,.bool true,.bool false,.bool false,.bool false,.bool true,.bool true,.slice (some ⟨b,o,none⟩) L.length c6,.slice (some ⟨b,o,none⟩) L.length c6,.int .i64 m,.pointer (some ⟨b,o + m * 12,none⟩),.pointer (some ⟨b,o + m * 12,none⟩),_,_,_,_,_,_,_,_,_,_,_,_],[]⟩ _)
          · intro u hu
            go_simp
          refine HT.take 22 (.string id) rfl (by kernel_rfl) (fun _ _ _ h=>h) (Or.inl ⟨by rfl,?_⟩) (?_:HT _ _ _ _ _ _ _ ⟨#[_,_,_,_,_,_,_,_,_,_,_,_,_,_,_,_,_,_,_,_,_,_,_,_,_,_,_,_,_,_,_,_,_,_,_,_,_,_,_,_,_,_,_,_,_,_,_,_,_,_,_,_,_,_,_,_,_,_,_,_,_,_,_,_,_,_,_,_,_,_,_,_,_,_,_,_,_,_,_,_,_,_,_,_,_,_,_,_,_,_,_,_,_,_,_,_,_,_,_,_,_,_,_,_,_,_,_,_,_,_,_,_,_,_,_,_,_,_,_,_,_,_,_,_,_,_,_,_,_,_,_,_,_,_,_,_,_,_,_,_,_,_,_,_,_,_,_,_,_,_,_,_,_,_,_,_,_,_,_,_,_,_,_,_,_,_,_,_,_,_,_,_,_,_,_,.bool true,.slice (some ⟨b,o,none⟩) L.length c6,.slice (some ⟨b,o,none⟩) L.length c6,.int .i64 m,.pointer (some ⟨b,o + m * 12,none⟩),.pointer (some ⟨b,o + m * 12,none⟩),.string id,.bool true,.bool false,.bool false,.bool true,.bool true,.bool false,.bool false,.bool false,.bool true,.bool true,.slice (some ⟨b,o,none⟩) L.length c6,.slice (some ⟨b,o,none⟩) L.length c6,.int .i64 m,.pointer (some ⟨b,o + m * 12,none⟩),.pointer (some ⟨b,o + m * 12,none⟩),.string id,_,_,_,_,_,_,_,_,_,_,_],[]⟩ _)
          · intro u hu
            have y0:=HYB.out u hu
            go_simp
          refine HT.take 23 (.agg #[.string E.k,.string E.v,.int .i64 E.s,.string E.r,.int .i64 E.m,.slice A7 E.fs.length c7,.slice X7 E.body.length d7,.int .i64 E.asked,.int .i64 E.got]) rfl (by kernel_rfl) (fun _ _ _ h=>h) (Or.inl ⟨by rfl,?_⟩) (?_:HT _ _ _ _ _ _ _ ⟨#[_,_,_,_,_,_,_,_,_,_,_,_,_,_,_,_,_,_,_,_,_,_,_,_,_,_,_,_,_,_,_,_,_,_,_,_,_,_,_,_,_,_,_,_,_,_,_,_,_,_,_,_,_,_,_,_,_,_,_,_,_,_,_,_,_,_,_,_,_,_,_,_,_,_,_,_,_,_,_,_,_,_,_,_,_,_,_,_,_,_,_,_,_,_,_,_,_,_,_,_,_,_,_,_,_,_,_,_,_,_,_,_,_,_,_,_,_,_,_,_,_,_,_,_,_,_,_,_,_,_,_,_,_,_,_,_,_,_,_,_,_,_,_,_,_,_,_,_,_,_,_,_,_,_,_,_,_,_,_,_,_,_,_,_,_,_,_,_,_,_,_,_,_,_,_,.bool true,.slice (some ⟨b,o,none⟩) L.length c6,.slice (some ⟨b,o,none⟩) L.length c6,.int .i64 m,.pointer (some ⟨b,o + m * 12,none⟩),.pointer (some ⟨b,o + m * 12,none⟩),.string id,.bool true,.bool false,.bool false,.bool true,.bool true,.bool false,.bool false,.bool false,.bool true,.bool true,.slice (some ⟨b,o,none⟩) L.length c6,.slice (some ⟨b,o,none⟩) L.length c6,.int .i64 m,.pointer (some ⟨b,o + m * 12,none⟩),.pointer (some ⟨b,o + m * 12,none⟩),.string id,.agg #[.string E.k,.string E.v,.int .i64 E.s,.string E.r,.int .i64 E.m,.slice A7 E.fs.length c7,.slice X7 E.body.length d7,.int .i64 E.asked,.int .i64 E.got],_,_,_,_,_,_,_,_,_,_],[]⟩ _)
          · intro u hu
            obtain ⟨z0,z1,z2,z3,z4,z5,z6,z7,z8⟩:=HC1.out u hu
            go_simp
          refine HT.step 24 rfl (by kernel_rfl) (fun hS K hK=>?_)
          go_simp
          refine (HCO.out _ hS).mono ?_
          rintro e w17 ⟨rfl,hb17⟩
          refine hK.out _ _ (below_then hS.size hS hb17) ?_
          clear hK hb17 hS
          refine HT.take 25 (.bool false) rfl (by kernel_rfl) (fun _ _ _ h=>h) (Or.inl ⟨by rfl,?_⟩) (?_:HT _ _ _ _ _ _ _ ⟨#[_,_,_,_,_,_,_,_,_,_,_,_,_,_,_,_,_,_,_,_,_,_,_,_,_,_,_,_,_,_,_,_,_,_,_,_,_,_,_,_,_,_,_,_,_,_,_,_,_,_,_,_,_,_,_,_,_,_,_,_,_,_,_,_,_,_,_,_,_,_,_,_,_,_,_,_,_,_,_,_,_,_,_,_,_,_,_,_,_,_,_,_,_,_,_,_,_,_,_,_,_,_,_,_,_,_,_,_,_,_,_,_,_,_,_,_,_,_,_,_,_,_,_,_,_,_,_,_,_,_,_,_,_,_,_,_,_,_,_,_,_,_,_,_,_,_,_,_,_,_,_,_,_,_,_,_,_,_,_,_,_,_,_,_,_,_,_,_,_,_,_,_,_,_,_,.bool true,.slice (some ⟨b,o,none⟩) L.length c6,.slice (some ⟨b,o,none⟩) L.length c6,.int .i64 m,.pointer (some ⟨b,o + m * 12,none⟩),.pointer (some ⟨b,o + m * 12,none⟩),.string id,.bool true,.bool false,.bool false,.bool true,.bool true,.bool false,.bool false,.bool false,.bool true,.bool true,.slice (some ⟨b,o,none⟩) L.length c6,.slice (some ⟨b,o,none⟩) L.length c6,.int .i64 m,.pointer (some ⟨b,o + m * 12,none⟩),.pointer (some ⟨b,o + m * 12,none⟩),.string id,.agg #[.string E.k,.string E.v,.int .i64 E.s,.string E.r,.int .i64 E.m,.slice A7 E.fs.length c7,.slice X7 E.body.length d7,.int .i64 E.asked,.int .i64 E.got],.bool true,.bool false,_,_,_,_,_,_,_,_],[]⟩ _)
          · intro u hu
            go_simp
          refine HT.take 26 (.bool false) rfl (by kernel_rfl) (fun _ _ _ h=>h) (Or.inl ⟨by rfl,?_⟩) (?_:HT _ _ _ _ _ _ _ ⟨#[_,_,_,_,_,_,_,_,_,_,_,_,_,_,_,_,_,_,_,_,_,_,_,_,_,_,_,_,_,_,_,_,_,_,_,_,_,_,_,_,_,_,_,_,_,_,_,_,_,_,_,_,_,_,_,_,_,_,_,_,_,_,_,_,_,_,_,_,_,_,_,_,_,_,_,_,_,_,_,_,_,_,_,_,_,_,_,_,_,_,_,_,_,_,_,_,_,_,_,_,_,_,_,_,_,_,_,_,_,_,_,_,_,_,_,_,_,_,_,_,_,_,_,_,_,_,_,_,_,_,_,_,_,_,_,_,_,_,_,_,_,_,_,_,_,_,_,_,_,_,_,_,_,_,_,_,_,_,_,_,_,_,_,_,_,_,_,_,_,_,_,_,_,_,_,.bool true,.slice (some ⟨b,o,none⟩) L.length c6,.slice (some ⟨b,o,none⟩) L.length c6,.int .i64 m,.pointer (some ⟨b,o + m * 12,none⟩),.pointer (some ⟨b,o + m * 12,none⟩),.string id,.bool true,.bool false,.bool false,.bool true,.bool true,.bool false,.bool false,.bool false,.bool true,.bool true,.slice (some ⟨b,o,none⟩) L.length c6,.slice (some ⟨b,o,none⟩) L.length c6,.int .i64 m,.pointer (some ⟨b,o + m * 12,none⟩),.pointer (some ⟨b,o + m * 12,none⟩),.string id,.agg #[.string E.k,.string E.v,.int .i64 E.s,.string E.r,.int .i64 E.m,.slice A7 E.fs.length c7,.slice X7 E.body.length d7,.int .i64 E.asked,.int .i64 E.got],.bool true,.bool false,.bool false,_,_,_,_,_,_,_],[]⟩ _)
          · intro u hu
            go_simp
          refine HT.take 27 (.agg #[.string E.k,.string E.v,.int .i64 E.s,.string E.r,.int .i64 E.m,.slice A7 E.fs.length c7,.slice X7 E.body.length d7,.int .i64 E.asked,.int .i64 E.got]) rfl (by kernel_rfl) (fun _ _ _ h=>h) (Or.inl ⟨by rfl,?_⟩) (?_:HT _ _ _ _ _ _ _ ⟨#[_,_,_,_,_,_,_,_,_,_,_,_,_,_,_,_,_,_,_,_,_,_,_,_,_,_,_,_,_,_,_,_,_,_,_,_,_,_,_,_,_,_,_,_,_,_,_,_,_,_,_,_,_,_,_,_,_,_,_,_,_,_,_,_,_,_,_,_,_,_,_,_,_,_,_,_,_,_,_,_,_,_,_,_,_,_,_,_,_,_,_,_,_,_,_,_,_,_,_,_,_,_,_,_,_,_,_,_,_,_,_,_,_,_,_,_,_,_,_,_,_,_,_,_,_,_,_,_,_,_,_,_,_,_,_,_,_,_,_,_,_,_,_,_,_,_,_,_,_,_,_,_,_,_,_,_,_,_,_,_,_,_,_,_,_,_,_,_,_,_,_,_,_,_,_,.bool true,.slice (some ⟨b,o,none⟩) L.length c6,.slice (some ⟨b,o,none⟩) L.length c6,.int .i64 m,.pointer (some ⟨b,o + m * 12,none⟩),.pointer (some ⟨b,o + m * 12,none⟩),.string id,.bool true,.bool false,.bool false,.bool true,.bool true,.bool false,.bool false,.bool false,.bool true,.bool true,.slice (some ⟨b,o,none⟩) L.length c6,.slice (some ⟨b,o,none⟩) L.length c6,.int .i64 m,.pointer (some ⟨b,o + m * 12,none⟩),.pointer (some ⟨b,o + m * 12,none⟩),.string id,.agg #[.string E.k,.string E.v,.int .i64 E.s,.string E.r,.int .i64 E.m,.slice A7 E.fs.length c7,.slice X7 E.body.length d7,.int .i64 E.asked,.int .i64 E.got],.bool true,.bool false,.bool false,.agg #[.string E.k,.string E.v,.int .i64 E.s,.string E.r,.int .i64 E.m,.slice A7 E.fs.length c7,.slice X7 E.body.length d7,.int .i64 E.asked,.int .i64 E.got],_,_,_,_,_,_],[]⟩ _)
          · intro u hu
            obtain ⟨z0,z1,z2,z3,z4,z5,z6,z7,z8⟩:=HC1.out u hu
            go_simp
          refine HT.take 28 (.agg #[.string E.k,.string E.v,.int .i64 E.s,.string E.r,.int .i64 E.m,.slice A8 E.fs.length c8,.slice X8 E.body.length d8,.int .i64 E.asked,.int .i64 E.got]) rfl (by kernel_rfl) (fun _ _ _ h=>h) (Or.inl ⟨by rfl,?_⟩) (?_:HT _ _ _ _ _ _ _ ⟨#[_,_,_,_,_,_,_,_,_,_,_,_,_,_,_,_,_,_,_,_,_,_,_,_,_,_,_,_,_,_,_,_,_,_,_,_,_,_,_,_,_,_,_,_,_,_,_,_,_,_,_,_,_,_,_,_,_,_,_,_,_,_,_,_,_,_,_,_,_,_,_,_,_,_,_,_,_,_,_,_,_,_,_,_,_,_,_,_,_,_,_,_,_,_,_,_,_,_,_,_,_,_,_,_,_,_,_,_,_,_,_,_,_,_,_,_,_,_,_,_,_,_,_,_,_,_,_,_,_,_,_,_,_,_,_,_,_,_,_,_,_,_,_,_,_,_,_,_,_,_,_,_,_,_,_,_,_,_,_,_,_,_,_,_,_,_,_,_,_,_,_,_,_,_,_,.bool true,.slice (some ⟨b,o,none⟩) L.length c6,.slice (some ⟨b,o,none⟩) L.length c6,.int .i64 m,.pointer (some ⟨b,o + m * 12,none⟩),.pointer (some ⟨b,o + m * 12,none⟩),.string id,.bool true,.bool false,.bool false,.bool true,.bool true,.bool false,.bool false,.bool false,.bool true,.bool true,.slice (some ⟨b,o,none⟩) L.length c6,.slice (some ⟨b,o,none⟩) L.length c6,.int .i64 m,.pointer (some ⟨b,o + m * 12,none⟩),.pointer (some ⟨b,o + m * 12,none⟩),.string id,.agg #[.string E.k,.string E.v,.int .i64 E.s,.string E.r,.int .i64 E.m,.slice A7 E.fs.length c7,.slice X7 E.body.length d7,.int .i64 E.asked,.int .i64 E.got],.bool true,.bool false,.bool false,.agg #[.string E.k,.string E.v,.int .i64 E.s,.string E.r,.int .i64 E.m,.slice A7 E.fs.length c7,.slice X7 E.body.length d7,.int .i64 E.asked,.int .i64 E.got],.agg #[.string E.k,.string E.v,.int .i64 E.s,.string E.r,.int .i64 E.m,.slice A8 E.fs.length c8,.slice X8 E.body.length d8,.int .i64 E.asked,.int .i64 E.got],_,_,_,_,_],[]⟩ _)
          · intro u hu
            obtain ⟨z0,z1,z2,z3,z4,z5,z6,z7,z8⟩:=HC2.out u hu
            go_simp
          refine HT.step 29 rfl (by kernel_rfl) (fun hS K hK=>?_)
          go_simp
          refine (HSE.out _ hS).mono ?_
          rintro e w18 ⟨rfl,hb18⟩
          refine hK.out _ _ (below_then hS.size hS hb18) ?_
          clear hK hb18 hS
          refine HT.tail _ rfl rfl (by kernel_rfl) (fun hS=>?_)
          have HB18:=Lib.hid hS
          clear hS hS0
          go_wp2_with fail
          refine NoPanic.normal ?_
          go_wp2
          go_roundw
          case rel=>exact ⟨m + 1,by omega,by go_num,below_then HBX.out.size HBX.out HB18.out⟩
          case measure=>simp [intOf]; omega
end Go.Proofs.YtkempjcphpnocaaGreatDoor
