/- What is sent to an origin: its fields, and that they are clean. No program here. -/
import Derived.Test.YtcoohkgamogmgaaDoorPlain4
namespace Go.Proofs.YtcoohkgamogmgaaDoor
open Go
namespace F
def hostN : ByteArray := ⟨#[72, 111, 115, 116]⟩
def expectN : ByteArray := ⟨#[69, 120, 112, 101, 99, 116]⟩
def clenN : ByteArray := ⟨#[67, 111, 110, 116, 101, 110, 116, 45, 76, 101, 110, 103, 116, 104]⟩
def three : List ByteArray := [hostN, expectN, clenN]
def four : List ByteArray := [⟨#[104, 111, 115, 116]⟩, ⟨#[101, 120, 112, 101, 99, 116]⟩, ⟨#[99, 111, 110, 116, 101, 110, 116, 45, 108, 101, 110, 103, 116, 104]⟩, ⟨#[118, 105, 97]⟩]
/-- The value of Host. -/
def hostOf (host : ByteArray) (port : Int) : ByteArray := if port = 80 then host else host ++ (⟨#[58]⟩ ++ B (Lib.itoa port))
/-- The fields of a request that is sent on. -/
def sent (fs : List FD) (m : Int) (via host : ByteArray) (port : Int) : List FD :=
  put ((hostN, hostOf host port) :: without (strip fs) three) via3 (viaOf fs m via)

theorem values_cons (f : FD) (l : List FD) (n : ByteArray) : values (f :: l) n = if is f n then f.2 :: values l n else values l n := by
  unfold values
  rw [List.filter_cons]
  split <;> rfl
theorem without_without (l : List FD) (a b : List ByteArray) : without (without l a) b = without l (a ++ b) := by
  unfold without
  rw [List.filter_filter]
  apply List.filter_congr
  intro f _
  rw [List.any_append]
  cases (a.any fun n => is f n) <;> cases (b.any fun n => is f n) <;> rfl
theorem without_fold (l : List FD) {a b : List ByteArray} (h : a.map (fun n => T.fold (L n)) = b.map (fun n => T.fold (L n))) : without l a = without l b := by
  unfold without
  apply List.filter_congr
  intro f _
  rw [any_fold f a b h]
theorem is_of_fold {n v m : ByteArray} (h : T.fold (L n) ≠ T.fold (L m)) : is (n, v) m = false := by
  unfold is; exact decide_eq_false h
/-- As the document lays it. -/
theorem sent_eq (fs : List FD) (m : Int) (via host : ByteArray) (port : Int) : sent fs m via host port = [(hostN, hostOf host port)] ++ without (strip fs) four ++ [(via3, viaOf fs m via)] := by
  unfold sent put
  congr 1
  have h : is (hostN, hostOf host port) via3 = false := is_of_fold (by decide)
  show List.filter _ (_ :: _) = _
  rw [List.filter_cons, if_pos (by simp [h])]
  show _ :: without (without (strip fs) three) [via3] = _
  rw [without_without, without_fold (strip fs) (a := three ++ [via3]) (b := four) (by decide)]
  rfl
theorem values_sub (l : List FD) (ns : List ByteArray) (n : ByteArray) (h : values l n = []) : values (without l ns) n = [] := by
  unfold values without at *
  rw [List.map_eq_nil_iff, List.filter_eq_nil_iff] at *
  intro f hf
  exact h f (List.mem_filter.1 hf).1
theorem values_sent (fs : List FD) (m : Int) (via host : ByteArray) (port : Int) (n : ByteArray) (h1 : T.fold (L n) ≠ T.fold (L hostN)) (h2 : T.fold (L n) ≠ T.fold (L via3)) (h3 : values (without (strip fs) four) n = []) : values (sent fs m via host port) n = [] := by
  rw [sent_eq, values_append, values_append, h3, values_cons, values_cons, if_neg (by rw [is_of_fold (Ne.symm h1)]; simp), if_neg (by rw [is_of_fold (Ne.symm h2)]; simp)]
  rfl
theorem values_low (l : List FD) (n n' : ByteArray) (ns : List ByteArray) (h : T.fold (L n) = T.fold (L n')) (hm : n' ∈ ns) : values (without l ns) n = [] := by
  rw [values_fold h]
  exact values_none l n' ns hm
/-- The ten names of which nothing is sent. -/
def ten : List ByteArray := [⟨#[67, 111, 110, 110, 101, 99, 116, 105, 111, 110]⟩, ⟨#[75, 101, 101, 112, 45, 65, 108, 105, 118, 101]⟩, ⟨#[80, 114, 111, 120, 121, 45, 67, 111, 110, 110, 101, 99, 116, 105, 111, 110]⟩, ⟨#[80, 114, 111, 120, 121, 45, 65, 117, 116, 104, 111, 114, 105, 122, 97, 116, 105, 111, 110]⟩, ⟨#[84, 69]⟩, ⟨#[84, 114, 97, 105, 108, 101, 114]⟩, ⟨#[84, 114, 97, 110, 115, 102, 101, 114, 45, 69, 110, 99, 111, 100, 105, 110, 103]⟩, ⟨#[85, 112, 103, 114, 97, 100, 101]⟩, clenN, expectN]
theorem clean_strip (fs : List FD) (m : Int) (via host : ByteArray) (port : Int) (n : ByteArray) (hn : n ∈ tokens fs cConn ++ nine) (h1 : T.fold (L n) ≠ T.fold (L hostN)) (h2 : T.fold (L n) ≠ T.fold (L via3)) : values (sent fs m via host port) n = [] :=
  values_sent fs m via host port n h1 h2 (values_sub _ _ _ (values_none fs n _ hn))
theorem clean_ten (fs : List FD) (m : Int) (via host : ByteArray) (port : Int) (n : ByteArray) (hn : n ∈ ten) : values (sent fs m via host port) n = [] := by
  have h12 : ∀ x ∈ ten, T.fold (L x) ≠ T.fold (L hostN) ∧ T.fold (L x) ≠ T.fold (L via3) := by decide
  have h3 : ∀ x ∈ ten, x ∈ nine ∨ x = clenN ∨ x = expectN := by
    intro x hx
    unfold ten at hx
    simp only [List.mem_cons, List.not_mem_nil, or_false] at hx
    rcases hx with rfl | rfl | rfl | rfl | rfl | rfl | rfl | rfl | rfl | rfl <;> simp [nine]
  rcases h3 n hn with h | h | h
  · exact clean_strip fs m via host port n (List.mem_append_right _ h) (h12 n hn).1 (h12 n hn).2
  · exact values_sent fs m via host port n (h12 n hn).1 (h12 n hn).2 (values_low _ n ⟨#[99, 111, 110, 116, 101, 110, 116, 45, 108, 101, 110, 103, 116, 104]⟩ four (by rw [h]; decide) (by simp [four]))
  · exact values_sent fs m via host port n (h12 n hn).1 (h12 n hn).2 (values_low _ n ⟨#[101, 120, 112, 101, 99, 116]⟩ four (by rw [h]; decide) (by simp [four]))
theorem lower_lower (c : UInt8) : T.lower (T.lower c) = T.lower c := by
  by_cases h : 65 ≤ c.toNat ∧ c.toNat ≤ 90
  · have := (T.lower_up h.1 h.2).2
    exact T.lower_id (by omega)
  · rw [T.lower_id h, T.lower_id h]
theorem fold_fold (l : List UInt8) : T.fold (T.fold l) = T.fold l := by
  unfold T.fold
  rw [List.map_map]
  apply List.map_congr_left
  intro c _
  exact lower_lower c
theorem clean_word (fs : List FD) (m : Int) (via host : ByteArray) (port : Int) (w : ByteArray) (hw : w ∈ tokens fs cConn) (h1 : w ≠ ⟨#[104, 111, 115, 116]⟩) (h2 : w ≠ ⟨#[118, 105, 97]⟩) : values (sent fs m via host port) w = [] := by
  have hf : T.fold (L w) = L w := by
    unfold tokens at hw
    obtain ⟨v, _, hw⟩ := List.mem_flatMap.1 hw
    obtain ⟨el, _, rfl⟩ := List.mem_map.1 hw
    rw [L_B, fold_fold]
  refine clean_strip fs m via host port w (List.mem_append_left _ hw) ?_ ?_
  · rw [hf]; intro h; exact h1 (L_inj (h.trans (by decide)))
  · rw [hf]; intro h; exact h2 (L_inj (h.trans (by decide)))
theorem values_sent_host (fs : List FD) (m : Int) (via host : ByteArray) (port : Int) : values (sent fs m via host port) hostN = [hostOf host port] := by
  rw [sent_eq, values_append, values_append, values_low _ hostN ⟨#[104, 111, 115, 116]⟩ four (by decide) (by simp [four]), values_cons, values_cons, if_pos (is_self _ _), if_neg (by rw [is_of_fold (by decide)]; simp)]
  rfl
theorem values_sent_via (fs : List FD) (m : Int) (via host : ByteArray) (port : Int) : values (sent fs m via host port) via3 = [viaOf fs m via] := values_put _ _ _
theorem via_ends (fs : List FD) (m : Int) (via : ByteArray) : via.size ≤ (viaOf fs m via).size ∧ (viaOf fs m via).extract ((viaOf fs m via).size - via.size) (viaOf fs m via).size = via := by
  obtain ⟨P, hP⟩ : ∃ P, viaOf fs m via = P ++ via := ⟨_, rfl⟩
  rw [hP, ByteArray.size_append]
  refine ⟨by omega, ?_⟩
  apply L_inj
  rw [L_extract, L_append, show P.size + via.size - via.size = P.size from by omega, L_size P, List.drop_left, List.take_of_length_le (by rw [L_size via]; omega)]
theorem bulk_sent (fs : List FD) (m : Int) (via host : ByteArray) (port : Int) : bulk (sent fs m via host port) ≤ bulk fs + (hostOf host port).size + (viaOf fs m via).size + 9 := by
  rw [sent_eq, bulk_append, bulk_append]
  have h1 := bulk_without (strip fs) four
  have h2 := bulk_strip fs
  have e1 : via3.size = 3 := rfl
  have e2 : hostN.size = 4 := rfl
  simp only [bulk]
  omega
end F
end Go.Proofs.YtcoohkgamogmgaaDoor
