/- The walks of Get, Put, withVia and the document's Get and via. Conditions: a list of bulk at most 2^30, texts of at most 2^30 bytes, a number of 64 bits, the library's table of powers of ten. -/
import Derived.Test.YteehjkfmlcfffaaGreatDoorPlainB
import Derived.Test.YteehjkfmlcfffaaGreatDoorStripA
import Derived.Test.YteehjkfmlcfffaaGreatDoorShow
import Derived.Lib.ItoaLen
namespace Go.Proofs.YteehjkfmlcfffaaGreatDoor
open Go.RowKit

def RetSB (w : World) (s : ByteArray) (b : Bool) (e : Ending) (w' : World) : Prop := e = .returned (.tuple #[.string s, .bool b]) ∧ Below w.heap.size w w'

/-- strings.Join of a list that reads as texts. -/
theorem join_any (A : Option Addr) (n c : Nat) (xs : List ByteArray) (w : World) (hl : xs.length = n) (hc : n ≤ c) (hw : F.weigh xs ≤ 17179869184) (hn : n ≤ 1099511627776) (hx : Rd w A n 1 (scells xs)) :
    Calls Tryz.prog 241 #[.slice A n c, .string ⟨#[44, 32]⟩] w (RetS w (B (F.glue xs))) := by
  rcases Nat.eq_zero_or_pos n with h0 | h0
  · subst h0
    have : xs = [] := List.eq_nil_of_length_eq_zero hl
    subst this
    refine (Tryz.strings_Join_none A c ⟨#[44, 32]⟩ w).mono ?_
    rintro e w' ⟨rfl, rfl⟩
    exact ⟨rfl, Below.refl _ _⟩
  · obtain ⟨b, o, rfl, hlt, hcs⟩ := hx.2 h0
    subst hl
    have hlen := F.glue_len xs
    refine (Tryz.strings_Join b o c xs ⟨#[44, 32]⟩ w (fun j x hj => hcs j _ (by rw [scells, List.getElem?_map, hj]; rfl)) hlt (by omega) hc (Nat.le_trans hlen (by omega))).mono ?_
    rintro e w' ⟨rfl, hb⟩
    exact ⟨rfl, hb⟩

theorem len_pos {n : Nat} {vs : List ByteArray} (h : vs.length = n) : decide (0 < n) = !vs.isEmpty := by
  cases vs with
  | nil => subst h; rfl
  | cons a l => subst h; simp

set_option maxHeartbeats 400000 in
theorem get_any (A : Option Addr) (n c : Nat) (fs : List FD) (name : ByteArray) (w : World) (hl : fs.length = n) (hf : F.bulk fs ≤ 8589934592) (h2 : name.size ≤ 1099511627776) (hx : Rd w A n 2 (fcells fs)) :
    Calls Tryz.prog 170 #[.slice A n c, .string name] w (RetSB w (F.joined fs name) (F.has fs name)) := by
  have hn : n ≤ 8589934592 := by have := F.len_le_bulk fs; omega
  have hsm : FSmall fs := fun f hf' => by have := F.mem_bulk hf'; omega
  have hwe : F.weigh (F.values fs name) ≤ 17179869184 := by have := F.weigh_values name fs; omega
  have hvl : (F.values fs name).length ≤ 8589934592 := by
    have := List.length_filter_le (fun f => F.is f name) fs
    unfold F.values
    rw [List.length_map]
    omega
  have HV := Lib.hid (values_any A n c fs name w (by omega) hl hsm h2 hx)
  have HFIN := Lib.hid (show F.joined fs name = B (F.glue (F.values fs name)) from rfl)
  have HHAS := Lib.hid (show F.has fs name = !(F.values fs name).isEmpty from rfl)
  obtain ⟨vs, hvs⟩ : ∃ vs, vs = F.values fs name := ⟨_, rfl⟩
  rw [← hvs] at hwe hvl HV HFIN HHAS
  obtain ⟨N, hN⟩ : ∃ N, N = vs.length := ⟨_, rfl⟩
  rw [← hN] at HV hvl
  have hdec := len_pos hN.symm
  rw [← HHAS.out] at hdec
  obtain ⟨hs, hhs⟩ : ∃ hs, hs = F.has fs name := ⟨_, rfl⟩
  rw [← hhs] at hdec ⊢
  have HNN := Lib.hid hN.symm
  clear hl hf hx hsm hvs hN HHAS hhs hn
  have HJ := Lib.hid (fun (A1 : Option Addr) (c1 : Nat) (w1 : World) (hc : N ≤ c1) (hx : Rd w1 A1 N 1 (scells vs)) => join_any A1 N c1 vs w1 HNN.out hc hwe (by omega) hx)
  clear hwe
  go_enter Tryz.func170, Tryz.ntmps170
  go_wp2_with fail
  refine HV.out.mono ?_
  rintro e w1 ⟨A1, c1, rfl, hr1, hb1⟩
  have hcap := hr1.cap
  go_wp2_with fail
  refine (HJ.out A1 c1 _ hcap.1 hr1.rd).mono ?_
  rintro e w2 ⟨rfl, hb2⟩
  have HB := Lib.hid (below_next hb1 hb2)
  clear hr1 hb1 hb2 HV HJ
  go_wp2
  refine bodyPost_ret (v := .tuple #[.string (B (F.glue vs)), .bool hs]) (by simp [results, Tryz.results170, go_sem]) rfl ?_
  exact ⟨by rw [HFIN.out], HB.out⟩

set_option maxHeartbeats 400000 in
theorem put_any (A : Option Addr) (n c : Nat) (fs : List FD) (name v : ByteArray) (w : World) (hl : fs.length = n) (hf : F.bulk fs ≤ 8589934592) (h2 : name.size ≤ 1099511627776) (hx : Rd w A n 2 (fcells fs)) (hnil : A = none → n = 0 ∧ c = 0) :
    Calls Tryz.prog 171 #[.slice A n c, .string name, .string v] w (RetRow w 148 2 (F.put fs name v).length (fcells (F.put fs name v))) := by
  have hn : n ≤ 8589934592 := by have := F.len_le_bulk fs; omega
  have hsm : FSmall fs := fun f hf' => by have := F.mem_bulk hf'; omega
  have HW := Lib.hid (fun X d w1 (hb : Below w.heap.size w w1) (hX : Rd w1 X 1 1 (scells [name])) =>
    without_any A n c fs X 1 d [name] w1 (by omega) hl hsm (hx.below hb) hnil (by decide) rfl (fun s hs => by rw [List.mem_singleton.1 hs]; exact h2) hX)
  have hwl : (F.without fs [name]).length ≤ 8589934592 := by
    have := List.length_filter_le (fun f => !([name].any fun n => F.is f n)) fs
    unfold F.without
    omega
  have hpl : (F.put fs name v).length = (F.without fs [name]).length + 1 := by unfold F.put; rw [List.length_append]; rfl
  have HPL := Lib.hid hpl
  have HPC := Lib.hid (show F.put fs name v = F.without fs [name] ++ [(name, v)] from rfl)
  obtain ⟨ws, hws⟩ : ∃ ws, ws = F.without fs [name] := ⟨_, rfl⟩
  rw [← hws] at HW hwl HPL HPC
  obtain ⟨N, hN⟩ : ∃ N, N = ws.length := ⟨_, rfl⟩
  rw [← hN] at HW hwl HPL
  have HNN := Lib.hid hN.symm
  clear hl hf hx hsm hws hN hpl hnil hn
  go_enter Tryz.func171, Tryz.ntmps171
  go_wp2_with fail
  refine (HW.out _ _ _ ((Below.refl _ _).alloc (Nat.le_refl _) _) (newS w name)).mono ?_
  rintro e w1 ⟨A1, c1, rfl, hr1, hb1⟩
  have hB1 := below_new (Below.refl w.heap.size w) (Nat.le_refl _) hb1
  have hz1 := hB1.size
  have hr2 := hr1.mono (show w.heap.size ≤ (w.alloc (.cells #[.string name] 9)).heap.size by rw [World.size_alloc]; omega)
  clear hb1 hr1 HW
  go_wp2_with (at_builtin; refine appF _ rfl (.tmp 10) (.tmp 14) rfl w.heap.size A1 N c1 ws rfl (hr2.alloc _) _ 1 1 [(name, v)] rfl (newF _ _) (by omega) (by simp; omega) ?_; intro A2 c2 w2 hr3 ha3)
  have hB2 : Below w.heap.size w w2 := (hB1.alloc hz1 _).trans (ha3.below (hr2.alloc _) (by simp; omega))
  go_ret
  refine ⟨A2, c2, ?_, ?_, hB2⟩
  · rw [HPL.out]; rfl
  · rw [HPL.out, HPC.out]; exact hr3

theorem viaOf_size (fs : List FD) (minor : Int) (name : ByteArray) (h0 : -9223372036854775808 ≤ minor) (h1 : minor ≤ 9223372036854775807) : (F.viaOf fs minor name).size ≤ 2 * F.bulk fs + name.size + 26 := by
  have h2 := F.joined_size fs F.via3
  have h3 : (B (Lib.itoa minor)).size ≤ 21 := by rw [B_size]; exact Lib.itoa_length_le minor h0 h1
  unfold F.viaOf
  simp only [ByteArray.size_append]
  have e1 : (⟨#[49, 46]⟩ : ByteArray).size = 2 := rfl
  have e2 : (⟨#[32]⟩ : ByteArray).size = 1 := rfl
  have e3 : (⟨#[44, 32]⟩ : ByteArray).size = 2 := rfl
  split
  · rw [ByteArray.size_append]; omega
  · omega

set_option maxHeartbeats 400000 in
theorem withVia_any (A : Option Addr) (n c : Nat) (fs : List FD) (A2 : Option Addr) (n2 c2 : Nat) (gs : List FD) (minor : Int) (name : ByteArray) (w : World) (hl : fs.length = n) (hf : F.bulk fs ≤ 8589934592) (hx : Rd w A n 2 (fcells fs)) (hnil : A = none → n = 0 ∧ c = 0)
    (hl2 : gs.length = n2) (hf2 : F.bulk gs ≤ 8589934592) (hx2 : Rd w A2 n2 2 (fcells gs)) (h0 : -9223372036854775808 ≤ minor) (h1 : minor ≤ 9223372036854775807) (h2 : name.size ≤ 1099511627776) (ht : TabOk w) :
    Calls Tryz.prog 90 #[.slice A n c, .slice A2 n2 c2, .int .i64 minor, .string name] w (RetRow w 148 2 (F.put fs F.via3 (F.viaOf gs minor name)).length (fcells (F.put fs F.via3 (F.viaOf gs minor name)))) := by
  have zJ := F.joined_size gs F.via3
  have zI : (B (Lib.itoa minor)).size ≤ 21 := by rw [B_size]; exact Lib.itoa_length_le minor h0 h1
  have HG := Lib.hid (get_any A2 n2 c2 gs F.via3 w hl2 hf2 (by decide) hx2)
  have HI := Lib.hid (fun (w1 : World) (hb : Below w.heap.size w w1) => itoa_any minor h0 h1 w1 (ht.below hb))
  have HP := Lib.hid (fun (v : ByteArray) (w1 : World) (hb : Below w.heap.size w w1) => put_any A n c fs F.via3 v w1 hl hf (by decide) (hx.below hb) hnil)
  have hv : F.viaOf gs minor name = (if F.has gs F.via3 then F.joined gs F.via3 ++ ⟨#[44, 32]⟩ else F.joined gs F.via3) ++ ⟨#[49, 46]⟩ ++ B (Lib.itoa minor) ++ ⟨#[32]⟩ ++ name := rfl
  have zJ' : (F.joined gs F.via3).size ≤ 17179869184 := by omega
  obtain ⟨I, hI⟩ : ∃ I, I = B (Lib.itoa minor) := ⟨_, rfl⟩
  obtain ⟨J, hJ⟩ : ∃ J, J = F.joined gs F.via3 := ⟨_, rfl⟩
  obtain ⟨hs, hhs⟩ : ∃ hs, hs = F.has gs F.via3 := ⟨_, rfl⟩
  obtain ⟨V, hV⟩ : ∃ V, V = F.viaOf gs minor name := ⟨_, rfl⟩
  rw [← hI] at HI zI hv
  rw [← hJ] at HG zJ' hv
  rw [← hhs] at HG hv
  rw [← hV] at hv ⊢
  clear zJ hI hJ hhs hV hx hx2 ht hl hl2 hf hf2 hnil h0 h1
  have HV := Lib.hid hv
  clear hv
  cases hs
  · go_enter Tryz.func90, Tryz.ntmps90
    go_wp2_with fail
    refine HG.out.mono ?_
    rintro e w1 ⟨rfl, hb1⟩
    have HB1 := Lib.hid hb1
    clear hb1 HG
    go_wp2_with fail
    refine (HI.out _ HB1.out).mono ?_
    rintro e w2 ⟨rfl, hb2⟩
    have HB2 := Lib.hid (below_next HB1.out hb2)
    clear hb2 HI HB1
    have HP2 := HP.out V w2 HB2.out
    rw [HV.out] at HP2
    have HP2 := Lib.hid HP2
    go_wp2_with fail
    refine HP2.out.mono ?_
    rintro e w3 ⟨A3, c3, rfl, hr3, hb3⟩
    have HB3 := Lib.hid (below_next HB2.out hb3)
    have HR3 := Lib.hid (hr3.mono HB2.out.size)
    clear hb3 hr3 HP HP2 HB2
    go_wp2
    go_ret
    exact ⟨A3, c3, by rw [HV.out]; rfl, by rw [HV.out]; exact HR3.out, HB3.out⟩
  · go_enter Tryz.func90, Tryz.ntmps90
    go_wp2_with fail
    refine HG.out.mono ?_
    rintro e w1 ⟨rfl, hb1⟩
    have HB1 := Lib.hid hb1
    clear hb1 HG
    go_wp2_with fail
    refine (HI.out _ HB1.out).mono ?_
    rintro e w2 ⟨rfl, hb2⟩
    have HB2 := Lib.hid (below_next HB1.out hb2)
    clear hb2 HI HB1
    have HP2 := HP.out V w2 HB2.out
    rw [HV.out] at HP2
    have HP2 := Lib.hid HP2
    go_wp2_with fail
    refine HP2.out.mono ?_
    rintro e w3 ⟨A3, c3, rfl, hr3, hb3⟩
    have HB3 := Lib.hid (below_next HB2.out hb3)
    have HR3 := Lib.hid (hr3.mono HB2.out.size)
    clear hb3 hr3 HP HP2 HB2
    go_wp2
    go_ret
    exact ⟨A3, c3, by rw [HV.out]; rfl, by rw [HV.out]; exact HR3.out, HB3.out⟩

end Go.Proofs.YteehjkfmlcfffaaGreatDoor
