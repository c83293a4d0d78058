/- The walks of Get, Put, withVia and the document's Get and via. Conditions: a list of bulk at most 2^30, texts of at most 2^30 bytes, a number of 64 bits, the library's table of powers of ten. -/
import Derived.Test.YtnmldbcgpfglkaaGreatDoorPlainB
import Derived.Test.YtnmldbcgpfglkaaGreatDoorStripA
import Derived.Test.YtnmldbcgpfglkaaGreatDoorShow
import Derived.Lib.ItoaLen
namespace Go.Proofs.YtnmldbcgpfglkaaGreatDoor
open Go.RowKit

def RetSB (w : World) (s : ByteArray) (b : Bool) (e : Ending) (w' : World) : Prop := e = .returned (.tuple #[.string s, .bool b]) ∧ Below w.heap.size w w'

/-- strings.Join of a list that reads as texts. -/
theorem join_any (A : Option Addr) (n c : Nat) (xs : List ByteArray) (w : World) (hl : xs.length = n) (hc : n ≤ c) (hw : F.weigh xs ≤ 17179869184) (hn : n ≤ 1099511627776) (hx : Rd w A n 1 (scells xs)) :
    Calls Tryz.prog 196 #[.slice A n c, .string ⟨#[44, 32]⟩] w (RetS w (B (F.glue xs))) := by
  rcases Nat.eq_zero_or_pos n with h0 | h0
  · subst h0
    have : xs = [] := List.eq_nil_of_length_eq_zero hl
    subst this
    refine (Tryz.strings_Join_none A c ⟨#[44, 32]⟩ w).mono ?_
    rintro e w' ⟨rfl, rfl⟩
    exact ⟨rfl, Below.refl _ _⟩
  · obtain ⟨b, o, rfl, hlt, hcs⟩ := hx.2 h0
    subst hl
    have hlen := F.glue_len xs
    refine (Tryz.strings_Join b o c xs ⟨#[44, 32]⟩ w (fun j x hj => hcs j _ (by rw [scells, List.getElem?_map, hj]; rfl)) hlt (by omega) hc (Nat.le_trans hlen (by omega))).mono ?_
    rintro e w' ⟨rfl, hb⟩
    exact ⟨rfl, hb⟩

theorem nil_app (x : ByteArray) : (⟨#[]⟩ : ByteArray) ++ x = x := by
  apply data_inj; simp [ByteArray.data_append]
theorem len_pos {n : Nat} {vs : List ByteArray} (h : vs.length = n) : decide (0 < n) = !vs.isEmpty := by
  cases vs with
  | nil => subst h; rfl
  | cons a l => subst h; simp

set_option maxHeartbeats 400000 in
theorem get_any (A : Option Addr) (n c : Nat) (fs : List FD) (name : ByteArray) (w : World) (hl : fs.length = n) (hf : F.bulk fs ≤ 8589934592) (h2 : name.size ≤ 1099511627776) (hx : Rd w A n 2 (fcells fs)) :
    Calls Tryz.prog 156 #[.slice A n c, .string name] w (RetSB w (F.joined fs name) (F.has fs name)) := by
  have hn : n ≤ 8589934592 := by have := F.len_le_bulk fs; omega
  have hsm : FSmall fs := fun f hf' => by have := F.mem_bulk hf'; omega
  have hwe : F.weigh (F.values fs name) ≤ 17179869184 := by have := F.weigh_values name fs; omega
  have hvl : (F.values fs name).length ≤ 8589934592 := by
    have := List.length_filter_le (fun f => F.is f name) fs
    unfold F.values
    rw [List.length_map]
    omega
  have HV := Lib.hid (values_any A n c fs name w (by omega) hl hsm h2 hx)
  have HFIN := Lib.hid (show F.joined fs name = B (F.glue (F.values fs name)) from rfl)
  have HHAS := Lib.hid (show F.has fs name = !(F.values fs name).isEmpty from rfl)
  obtain ⟨vs, hvs⟩ : ∃ vs, vs = F.values fs name := ⟨_, rfl⟩
  rw [← hvs] at hwe hvl HV HFIN HHAS
  obtain ⟨N, hN⟩ : ∃ N, N = vs.length := ⟨_, rfl⟩
  rw [← hN] at HV hvl
  have hdec := len_pos hN.symm
  rw [← HHAS.out] at hdec
  obtain ⟨hs, hhs⟩ : ∃ hs, hs = F.has fs name := ⟨_, rfl⟩
  rw [← hhs] at hdec ⊢
  have HNN := Lib.hid hN.symm
  clear hl hf hx hsm hvs hN HHAS hhs hn
  have HJ := Lib.hid (fun (A1 : Option Addr) (c1 : Nat) (w1 : World) (hc : N ≤ c1) (hx : Rd w1 A1 N 1 (scells vs)) => join_any A1 N c1 vs w1 HNN.out hc hwe (by omega) hx)
  clear hwe
  go_enter Tryz.func156, Tryz.ntmps156
  go_wp2_with fail
  refine HV.out.mono ?_
  rintro e w1 ⟨A1, c1, rfl, hr1, hb1⟩
  have hcap := hr1.cap
  go_wp2_with fail
  refine (HJ.out A1 c1 _ hcap.1 hr1.rd).mono ?_
  rintro e w2 ⟨rfl, hb2⟩
  have HB := Lib.hid (below_next hb1 hb2)
  clear hr1 hb1 hb2 HV HJ
  go_wp2
  refine bodyPost_ret (v := .tuple #[.string (B (F.glue vs)), .bool hs]) (by simp [results, Tryz.results156, go_sem]) rfl ?_
  exact ⟨by rw [HFIN.out], HB.out⟩

theorem viaOf_size (fs : List FD) (minor : Int) (name : ByteArray) (h0 : -9223372036854775808 ≤ minor) (h1 : minor ≤ 9223372036854775807) : (F.viaOf fs minor name).size ≤ 2 * F.bulk fs + name.size + 26 := by
  have h2 := F.joined_size fs F.via3
  have h3 : (B (Lib.itoa minor)).size ≤ 21 := by rw [B_size]; exact Lib.itoa_length_le minor h0 h1
  unfold F.viaOf
  simp only [ByteArray.size_append]
  have e1 : (⟨#[49, 46]⟩ : ByteArray).size = 2 := rfl
  have e2 : (⟨#[32]⟩ : ByteArray).size = 1 := rfl
  have e3 : (⟨#[44, 32]⟩ : ByteArray).size = 2 := rfl
  split
  · rw [ByteArray.size_append]; omega
  · omega

end Go.Proofs.YtnmldbcgpfglkaaGreatDoor
