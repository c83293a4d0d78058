/- The walk of hop.Request, from the contracts of what it calls. The walk of the document's Request, from the contracts of what it calls. The walks of SameRequest, CopyRequest and the document's Response. Conditions: lists of at most 2^40 elements; for Response a list of bulk at most 2^30, a name of at most 2^40 bytes, a number of 64 bits. The contracts of hop.Request and of its document's twin; the walk of the law HopSends. Conditions: lists of bulk at most 2^20, texts of at most 2^20 bytes, numbers of 64 bits, the library's table of powers of ten. The walk of the law HopClean. Conditions: a list of bulk at most 2^20, texts of at most 2^20 bytes, numbers of 64 bits, the library's table of powers of ten. -/
import Derived.Test.YteehjkfmlcfffaaGreatDoorRowA
import Derived.Test.YteehjkfmlcfffaaGreatDoorRegionA
import Derived.Test.YteehjkfmlcfffaaGreatDoorPlainB
import Derived.Outline
import Derived.Test.YteehjkfmlcfffaaGreatDoorResp
import Derived.Test.YteehjkfmlcfffaaGreatDoorSameQ
import Derived.Test.YteehjkfmlcfffaaGreatDoorStripA
import Derived.Test.YteehjkfmlcfffaaGreatDoorReplyA
import Derived.IntWalk
namespace Go.Proofs.YteehjkfmlcfffaaGreatDoor
open Go.RowKit

/-- A request, answered. -/
def RetQ (w : World) (s r : ByteArray) (m : Int) (xs : List FD) (e : Ending) (w' : World) : Prop :=
  ∃ A c, e = .returned (.agg #[.string s, .string r, .int .i64 m, .slice A xs.length c]) ∧ Row w' w.heap.size 148 2 A xs.length c (fcells xs) ∧ Below w.heap.size w w'
def F.pathOf (p : ByteArray) : ByteArray := if p = ⟨#[]⟩ then ⟨#[47]⟩ else p
/-- The four blocks of the walk. -/
def ReqS (w : World) (X T O H : Array Value) (u : World) : Prop := Blk u w.heap.size X 25 ∧ Blk u (w.heap.size + 1) T 66 ∧ Blk u (w.heap.size + 1 + 1) O 25 ∧ Blk u (w.heap.size + 1 + 1 + 1) H 148 ∧ Below w.heap.size w u
theorem ReqS.below {w u v : World} {X T O H : Array Value} (h : ReqS w X T O H u) (hb : Below u.heap.size u v) : ReqS w X T O H v :=
  ⟨h.1.below hb, h.2.1.below hb, h.2.2.1.below hb, h.2.2.2.1.below hb, below_then h.2.2.2.2.size h.2.2.2.2 hb⟩
theorem ReqS.start (w : World) (X T O H : Array Value) : ReqS w X T O H ((((w.alloc (.cells X 25)).alloc (.cells T 66)).alloc (.cells O 25)).alloc (.cells H 148)) := by
  refine ⟨(((Blk.new w X _).alloc _).alloc _).alloc _, ?_, ?_, ?_, ?_⟩
  · have := ((Blk.new (w.alloc (.cells X 25)) T 66).alloc (.cells O 25)).alloc (.cells H 148)
    rwa [World.size_alloc] at this
  · have := (Blk.new ((w.alloc (.cells X 25)).alloc (.cells T 66)) O 25).alloc (.cells H 148)
    rwa [World.size_alloc, World.size_alloc] at this
  · have := Blk.new (((w.alloc (.cells X 25)).alloc (.cells T 66)).alloc (.cells O 25)) H 148
    rwa [World.size_alloc, World.size_alloc, World.size_alloc] at this
  · exact ((((Below.refl _ _).alloc (Nat.le_refl _) _).alloc (by simp only [World.size_alloc]; omega) _).alloc (by simp only [World.size_alloc]; omega) _).alloc (by simp only [World.size_alloc]; omega) _

set_option maxRecDepth 100000 in
set_option maxHeartbeats 2000000 in
theorem request_80 (s r via host path _I hv : ByteArray) (m port : Int) (A : Option Addr) (n c N M : Nat) (T U P : List FD) (w : World)
    (hSt : Hid (∀ w1 : World, Below w.heap.size w w1 → Calls Tryz.prog 79 #[.slice A n c] w1 (RetRow w1 148 2 N (fcells T))))
    (hW : Hid (∀ (A1 : Option Addr) (c1 : Nat) (X : Option Addr) (d : Nat) (w1 : World), Rd w1 A1 N 2 (fcells T) → (A1 = none → N = 0 ∧ c1 = 0) → Rd w1 X 3 1 (scells F.three) → Calls Tryz.prog 81 #[.slice A1 N c1, .slice X 3 d] w1 (RetRow w1 148 2 M (fcells U))))
    (hV : Hid (∀ (A1 : Option Addr) (c1 : Nat) (w1 : World), Below w.heap.size w w1 → Rd w1 A1 (1 + M) 2 (fcells ([(F.hostN, hv)] ++ U)) → Calls Tryz.prog 90 #[.slice A1 (1 + M) c1, .slice A n c, .int .i64 m, .string via] w1 (RetRow w1 148 2 P.length (fcells P))))
    (hM : M ≤ 1099511627776)
    (hp : port = 80) (HHV : Hid (hv = host)) :
    Calls Tryz.prog 39 #[.agg #[.string s, .string r, .int .i64 m, .slice A n c], .agg #[.string host, .int .i64 port, .string path], .string via] w (RetQ w s (F.pathOf path) 1 P) := by
    have hpb : (port != 80) = false := by rw [hp]; rfl
    clear hp
    go_enter Tryz.func39, Tryz.ntmps39
    go_wp2
    have HS6 := Lib.hid (ReqS.start w #[.string s, .string r, .int .i64 m, .slice A n c] #[.string host, .int .i64 port, .string path] #[.string ⟨#[]⟩, .string ⟨#[]⟩, .int .i64 0, .slice none 0 0] #[.string ⟨#[72, 111, 115, 116]⟩, .string host])
    generalize ((((w.alloc (.cells #[.string s, .string r, .int .i64 m, .slice A n c] 25)).alloc (.cells #[.string host, .int .i64 port, .string path] 66)).alloc (.cells #[.string ⟨#[]⟩, .string ⟨#[]⟩, .int .i64 0, .slice none 0 0] 25)).alloc (.cells #[.string ⟨#[72, 111, 115, 116]⟩, .string host] 148)) = w6 at *
    have hz6 : w.heap.size + 4 ≤ w6.heap.size := by have := HS6.out.2.2.2.1.lt; omega
    have HV' := hV.out
    rw [HHV.out] at HV'
    have hV' := Lib.hid HV'
    clear HV'
    have hS0 : (ReqS w #[.string s, .string r, .int .i64 m, .slice A n c] #[.string host, .int .i64 port, .string path] #[.string ⟨#[]⟩, .string ⟨#[]⟩, .int .i64 0, .slice none 0 0] #[.string ⟨#[72, 111, 115, 116]⟩, .string host] w6.drew ∧ w6.heap.size ≤ w6.drew.heap.size) := ⟨HS6.out.below (Below.refl _ _).drew, Nat.le_refl _⟩
    refine wp_region_noPanic ?_
    refine HT.begin (n := 7) (S := fun u => ReqS w #[.string s, .string r, .int .i64 m, .slice A n c] #[.string host, .int .i64 port, .string path] #[.string ⟨#[]⟩, .string ⟨#[]⟩, .int .i64 0, .slice none 0 0] #[.string ⟨#[72, 111, 115, 116]⟩, .string host] u ∧ w6.heap.size ≤ u.heap.size) (by kernel_rfl) hS0 ?_
    refine HT.take 0 (.agg #[.string ⟨#[72, 111, 115, 116]⟩, .string host]) rfl (by kernel_rfl) (fun _ _ _ h => h) (Or.inl ⟨by rfl, ?_⟩) (?_ : HT _ _ _ _ _ _ _ ⟨#[.agg #[.string s, .string r, .int .i64 m, .slice A n c], .agg #[.string host, .int .i64 port, .string path], .string via, .pointer (some ⟨w.heap.size, 0, none⟩), .pointer (some ⟨w.heap.size + 1, 0, none⟩), undef, .pointer (some ⟨w.heap.size + 1 + 1, 0, none⟩), .pointer (some ⟨w.heap.size + 1 + 1 + 1, 0, none⟩), undef, undef, .pointer (some ⟨w.heap.size + 1, 0, none⟩), .string host, .agg #[.string ⟨#[72, 111, 115, 116]⟩, .string host], .pointer (some ⟨w.heap.size + 1, 1, none⟩), .int .i64 port, .bool false, undef, undef, undef, undef, undef, undef, undef, undef, .agg #[.string ⟨#[72, 111, 115, 116]⟩, .string host], undef, undef, undef, undef, undef, undef, undef, undef, undef, undef, undef, undef, undef, undef, undef, undef, undef, undef, undef, undef, undef, undef, undef, undef], []⟩ _)
    · intro u hu
      obtain ⟨⟨hx, ht, ho, hh, hb⟩, hz⟩ := hu
      have c0 := hh.cell 0 rfl
      have c1 := hh.cell 1 rfl
      go_simp
    refine HT.take 2 (.pointer (some ⟨w.heap.size, 3, none⟩)) rfl (by kernel_rfl) (fun _ _ _ h => h) (Or.inl ⟨by rfl, ?_⟩) (?_ : HT _ _ _ _ _ _ _ ⟨#[.agg #[.string s, .string r, .int .i64 m, .slice A n c], .agg #[.string host, .int .i64 port, .string path], .string via, .pointer (some ⟨w.heap.size, 0, none⟩), .pointer (some ⟨w.heap.size + 1, 0, none⟩), undef, .pointer (some ⟨w.heap.size + 1 + 1, 0, none⟩), .pointer (some ⟨w.heap.size + 1 + 1 + 1, 0, none⟩), undef, undef, .pointer (some ⟨w.heap.size + 1, 0, none⟩), .string host, .agg #[.string ⟨#[72, 111, 115, 116]⟩, .string host], .pointer (some ⟨w.heap.size + 1, 1, none⟩), .int .i64 port, .bool false, undef, undef, undef, undef, undef, undef, undef, undef, .agg #[.string ⟨#[72, 111, 115, 116]⟩, .string host], undef, .pointer (some ⟨w.heap.size, 3, none⟩), undef, undef, undef, undef, undef, undef, undef, undef, undef, undef, undef, undef, undef, undef, undef, undef, undef, undef, undef, undef, undef, undef], []⟩ _)
    · intro u hu
      go_simp
    refine HT.take 3 (.slice A n c) rfl (by kernel_rfl) (fun _ _ _ h => h) (Or.inl ⟨by rfl, ?_⟩) (?_ : HT _ _ _ _ _ _ _ ⟨#[.agg #[.string s, .string r, .int .i64 m, .slice A n c], .agg #[.string host, .int .i64 port, .string path], .string via, .pointer (some ⟨w.heap.size, 0, none⟩), .pointer (some ⟨w.heap.size + 1, 0, none⟩), undef, .pointer (some ⟨w.heap.size + 1 + 1, 0, none⟩), .pointer (some ⟨w.heap.size + 1 + 1 + 1, 0, none⟩), undef, undef, .pointer (some ⟨w.heap.size + 1, 0, none⟩), .string host, .agg #[.string ⟨#[72, 111, 115, 116]⟩, .string host], .pointer (some ⟨w.heap.size + 1, 1, none⟩), .int .i64 port, .bool false, undef, undef, undef, undef, undef, undef, undef, undef, .agg #[.string ⟨#[72, 111, 115, 116]⟩, .string host], undef, .pointer (some ⟨w.heap.size, 3, none⟩), .slice A n c, undef, undef, undef, undef, undef, undef, undef, undef, undef, undef, undef, undef, undef, undef, undef, undef, undef, undef, undef, undef, undef], []⟩ _)
    · intro u hu
      obtain ⟨⟨hx, ht, ho, hh, hb⟩, hz⟩ := hu
      have c3 := hx.cell 3 rfl
      go_simp
    refine HT.block (f0 := 2) [1, 4, 5, 6] (fun j v u => match j with | 1 => SlRow w6.heap.size 148 2 1 (fcells [(F.hostN, host)]) v u | 4 => SlRow w.heap.size 148 2 N (fcells T) v u | 5 => SlRd 1 3 (scells F.three) v u | 6 => SlRow w.heap.size 148 2 M (fcells U) v u | _ => True) (fun vs => ⟨#[.agg #[.string s, .string r, .int .i64 m, .slice A n c], .agg #[.string host, .int .i64 port, .string path], .string via, .pointer (some ⟨w.heap.size, 0, none⟩), .pointer (some ⟨w.heap.size + 1, 0, none⟩), undef, .pointer (some ⟨w.heap.size + 1 + 1, 0, none⟩), .pointer (some ⟨w.heap.size + 1 + 1 + 1, 0, none⟩), undef, undef, .pointer (some ⟨w.heap.size + 1, 0, none⟩), .string host, .agg #[.string ⟨#[72, 111, 115, 116]⟩, .string host], .pointer (some ⟨w.heap.size + 1, 1, none⟩), .int .i64 port, .bool false, undef, undef, undef, undef, undef, undef, undef, undef, .agg #[.string ⟨#[72, 111, 115, 116]⟩, .string host], vs 1, .pointer (some ⟨w.heap.size, 3, none⟩), .slice A n c, vs 4, vs 5, vs 6, undef, undef, undef, undef, undef, undef, undef, undef, undef, undef, undef, undef, undef, undef, undef, undef, undef, undef], []⟩) (fun _ => rfl) (by kernel_rfl) (fun u u' hb h => ⟨h.1.below hb, Nat.le_trans h.2 hb.size⟩) (fun j v u u' hb h => by revert h; split <;> intro h <;> first | exact h.below hb | trivial) (List.forall_mem_cons.2 ⟨⟨_, rfl, ?_⟩, List.forall_mem_cons.2 ⟨⟨_, rfl, ?_⟩, List.forall_mem_cons.2 ⟨⟨_, rfl, ?_⟩, List.forall_mem_cons.2 ⟨⟨_, rfl, ?_⟩, fun _ h => by cases h⟩⟩⟩⟩) ?_
    · intro vs u hS hd K hK
      go_simp
      refine hK.out (.slice (some ⟨u.heap.size, 0, none⟩) 1 1) _ ⟨_, _, rfl, .inl ⟨rfl, .inr ⟨u.heap.size, 1, _, rfl, hS.2, heap_alloc_new u _, Nat.le_refl _, by decide, rfl, rfl⟩⟩⟩ ((Below.refl _ _).alloc (Nat.le_refl _) _)
    · intro vs u hS hd K hK
      go_simp
      refine (hSt.out u hS.1.2.2.2.2).mono ?_
      rintro e w7 ⟨A1, c1, rfl, hr, hb⟩
      exact hK.out (.slice A1 N c1) _ ⟨A1, c1, rfl, hr.mono hS.1.2.2.2.2.size⟩ hb
    · intro vs u hS hd K hK
      go_simp
      exact hK.out (.slice (some ⟨u.heap.size, 0, none⟩) 3 3) _ ⟨_, _, rfl, Rd.newRow _ _ _ 3 1 rfl⟩ ((Below.refl _ _).alloc (Nat.le_refl _) _)
    · intro vs u hS hd K hK
      obtain ⟨A1, c1, e1, hr1⟩ : SlRow w.heap.size 148 2 N (fcells T) (vs 4) u := hd 4 (by simp) (by kernel_rfl)
      obtain ⟨A2, c2, e2, hr2⟩ : SlRd 1 3 (scells F.three) (vs 5) u := hd 5 (by simp) (by kernel_rfl)
      have hc := hW.out A1 c1 A2 c2 u hr1.rd (fun h => hr1.nilB h) hr2
      rw [← e1, ← e2] at hc
      clear e1 e2 hd
      have HC := Lib.hid hc
      clear hc
      go_simp
      refine HC.out.mono ?_
      rintro e w7 ⟨A3, c3, rfl, hr, hb⟩
      exact hK.out (.slice A3 M c3) _ ⟨A3, c3, rfl, hr.mono hS.1.2.2.2.2.size⟩ hb
    intro vs u hS hR
    have hv25 := hR 1 (by simp)
    generalize vs 1 = v25 at *
    have hv28 := hR 4 (by simp)
    generalize vs 4 = v28 at *
    have hv29 := hR 5 (by simp)
    generalize vs 5 = v29 at *
    have hv30 := hR 6 (by simp)
    generalize vs 6 = v30 at *
    clear hR
    refine (?_ : HT _ _ _ _ _ _ _ ⟨#[.agg #[.string s, .string r, .int .i64 m, .slice A n c], .agg #[.string host, .int .i64 port, .string path], .string via, .pointer (some ⟨w.heap.size, 0, none⟩), .pointer (some ⟨w.heap.size + 1, 0, none⟩), undef, .pointer (some ⟨w.heap.size + 1 + 1, 0, none⟩), .pointer (some ⟨w.heap.size + 1 + 1 + 1, 0, none⟩), undef, undef, .pointer (some ⟨w.heap.size + 1, 0, none⟩), .string host, .agg #[.string ⟨#[72, 111, 115, 116]⟩, .string host], .pointer (some ⟨w.heap.size + 1, 1, none⟩), .int .i64 port, .bool false, undef, undef, undef, undef, undef, undef, undef, undef, .agg #[.string ⟨#[72, 111, 115, 116]⟩, .string host], v25, .pointer (some ⟨w.heap.size, 3, none⟩), .slice A n c, v28, v29, v30, undef, undef, undef, undef, undef, undef, undef, undef, undef, undef, undef, undef, undef, undef, undef, undef, undef, undef], []⟩ _)
    obtain ⟨A1, c1, rfl, hr1⟩ := hv25
    obtain ⟨A2, c2, rfl, hr2⟩ := hv28
    obtain ⟨A3, c3, rfl, hr3⟩ := hv29
    obtain ⟨A4, c4, rfl, hr4⟩ := hv30
    clear hr2 hr3
    refine HT.tail _ rfl rfl (by kernel_rfl) (fun hS => ?_)
    have HS7 := Lib.hid hS
    clear hS
    refine appF _ rfl (.tmp 25) (.tmp 30) rfl w6.heap.size A1 1 c1 [(F.hostN, host)] rfl hr1 A4 M c4 U rfl hr4.rd (by omega) HS7.out.2 ?_
    intro A5 c5 w8 hr5 ha5
    go_wp2
    refine NoPanic.normal ?_
    have hne : ∀ k, ownB A1 c1 = some k → w6.heap.size ≤ k := fun k hk => (hr1.lt k hk).1
    have HS8 : Hid (ReqS w #[.string s, .string r, .int .i64 m, .slice A n c] #[.string host, .int .i64 port, .string path] #[.string ⟨#[]⟩, .string ⟨#[]⟩, .int .i64 0, .slice none 0 0] #[.string ⟨#[72, 111, 115, 116]⟩, .string host] w8) := Lib.hid ⟨HS7.out.1.1.app ha5 (fun k hk => by have := hne k hk; omega), HS7.out.1.2.1.app ha5 (fun k hk => by have := hne k hk; omega), HS7.out.1.2.2.1.app ha5 (fun k hk => by have := hne k hk; omega), HS7.out.1.2.2.2.1.app ha5 (fun k hk => by have := hne k hk; omega), HS7.out.1.2.2.2.2.trans ((ha5.below hr1 HS7.out.2).mono (by omega))⟩
    have hrd5 := hr5.rd
    clear hr1 hr4 ha5 hr5 hne HS6 HS7
    go_wp2
    have hz8 : w.heap.size + 4 ≤ w8.heap.size := by have := HS8.out.2.2.2.1.lt; omega
    have hS1 : (ReqS w #[.string s, .string r, .int .i64 m, .slice A n c] #[.string host, .int .i64 port, .string path] #[.string ⟨#[]⟩, .string ⟨#[]⟩, .int .i64 0, .slice none 0 0] #[.string ⟨#[72, 111, 115, 116]⟩, .string host] w8.drew ∧ w8.heap.size ≤ w8.drew.heap.size ∧ Rd w8.drew A5 (1 + M) 2 (fcells ([(F.hostN, host)] ++ U))) := ⟨HS8.out.below (Below.refl _ _).drew, Nat.le_refl _, hrd5⟩
    clear hrd5
    refine wp_region_noPanic ?_
    refine HT.begin (n := 13) (S := fun u => ReqS w #[.string s, .string r, .int .i64 m, .slice A n c] #[.string host, .int .i64 port, .string path] #[.string ⟨#[]⟩, .string ⟨#[]⟩, .int .i64 0, .slice none 0 0] #[.string ⟨#[72, 111, 115, 116]⟩, .string host] u ∧ w8.heap.size ≤ u.heap.size ∧ Rd u A5 (1 + M) 2 (fcells ([(F.hostN, host)] ++ U))) (by kernel_rfl) hS1 ?_
    refine HT.take 0 (.pointer (some ⟨w.heap.size, 0, none⟩)) rfl (by kernel_rfl) (fun _ _ _ h => h) (Or.inl ⟨by rfl, ?_⟩) (?_ : HT _ _ _ _ _ _ _ ⟨#[.agg #[.string s, .string r, .int .i64 m, .slice A n c], .agg #[.string host, .int .i64 port, .string path], .string via, .pointer (some ⟨w.heap.size, 0, none⟩), .pointer (some ⟨w.heap.size + 1, 0, none⟩), undef, .pointer (some ⟨w.heap.size + 1 + 1, 0, none⟩), .pointer (some ⟨w.heap.size + 1 + 1 + 1, 0, none⟩), .slice A5 (1 + M) c5, undef, .pointer (some ⟨w.heap.size + 1, 0, none⟩), .string host, .agg #[.string ⟨#[72, 111, 115, 116]⟩, .string host], .pointer (some ⟨w.heap.size + 1, 1, none⟩), .int .i64 port, .bool false, undef, undef, undef, undef, undef, undef, undef, undef, .agg #[.string ⟨#[72, 111, 115, 116]⟩, .string host], .slice A1 1 c1, .pointer (some ⟨w.heap.size, 3, none⟩), .slice A n c, .slice A2 N c2, .slice A3 3 c3, .slice A4 M c4, .slice A5 (1 + M) c5, .pointer (some ⟨w.heap.size, 0, none⟩), undef, undef, undef, undef, undef, undef, undef, undef, undef, undef, undef, undef, undef, undef, undef, undef], []⟩ _)
    · intro u hu
      go_simp
    refine HT.take 1 (.string s) rfl (by kernel_rfl) (fun _ _ _ h => h) (Or.inl ⟨by rfl, ?_⟩) (?_ : HT _ _ _ _ _ _ _ ⟨#[.agg #[.string s, .string r, .int .i64 m, .slice A n c], .agg #[.string host, .int .i64 port, .string path], .string via, .pointer (some ⟨w.heap.size, 0, none⟩), .pointer (some ⟨w.heap.size + 1, 0, none⟩), undef, .pointer (some ⟨w.heap.size + 1 + 1, 0, none⟩), .pointer (some ⟨w.heap.size + 1 + 1 + 1, 0, none⟩), .slice A5 (1 + M) c5, undef, .pointer (some ⟨w.heap.size + 1, 0, none⟩), .string host, .agg #[.string ⟨#[72, 111, 115, 116]⟩, .string host], .pointer (some ⟨w.heap.size + 1, 1, none⟩), .int .i64 port, .bool false, undef, undef, undef, undef, undef, undef, undef, undef, .agg #[.string ⟨#[72, 111, 115, 116]⟩, .string host], .slice A1 1 c1, .pointer (some ⟨w.heap.size, 3, none⟩), .slice A n c, .slice A2 N c2, .slice A3 3 c3, .slice A4 M c4, .slice A5 (1 + M) c5, .pointer (some ⟨w.heap.size, 0, none⟩), .string s, undef, undef, undef, undef, undef, undef, undef, undef, undef, undef, undef, undef, undef, undef, undef], []⟩ _)
    · intro u hu
      obtain ⟨⟨hx, ht, ho, hh, hb⟩, hz⟩ := hu
      have c0 := hx.cell 0 rfl
      go_simp
    refine HT.take 2 (.pointer (some ⟨w.heap.size + 1, 2, none⟩)) rfl (by kernel_rfl) (fun _ _ _ h => h) (Or.inl ⟨by rfl, ?_⟩) (?_ : HT _ _ _ _ _ _ _ ⟨#[.agg #[.string s, .string r, .int .i64 m, .slice A n c], .agg #[.string host, .int .i64 port, .string path], .string via, .pointer (some ⟨w.heap.size, 0, none⟩), .pointer (some ⟨w.heap.size + 1, 0, none⟩), undef, .pointer (some ⟨w.heap.size + 1 + 1, 0, none⟩), .pointer (some ⟨w.heap.size + 1 + 1 + 1, 0, none⟩), .slice A5 (1 + M) c5, undef, .pointer (some ⟨w.heap.size + 1, 0, none⟩), .string host, .agg #[.string ⟨#[72, 111, 115, 116]⟩, .string host], .pointer (some ⟨w.heap.size + 1, 1, none⟩), .int .i64 port, .bool false, undef, undef, undef, undef, undef, undef, undef, undef, .agg #[.string ⟨#[72, 111, 115, 116]⟩, .string host], .slice A1 1 c1, .pointer (some ⟨w.heap.size, 3, none⟩), .slice A n c, .slice A2 N c2, .slice A3 3 c3, .slice A4 M c4, .slice A5 (1 + M) c5, .pointer (some ⟨w.heap.size, 0, none⟩), .string s, .pointer (some ⟨w.heap.size + 1, 2, none⟩), undef, undef, undef, undef, undef, undef, undef, undef, undef, undef, undef, undef, undef, undef], []⟩ _)
    · intro u hu
      go_simp
    refine HT.take 3 (.string path) rfl (by kernel_rfl) (fun _ _ _ h => h) (Or.inl ⟨by rfl, ?_⟩) (?_ : HT _ _ _ _ _ _ _ ⟨#[.agg #[.string s, .string r, .int .i64 m, .slice A n c], .agg #[.string host, .int .i64 port, .string path], .string via, .pointer (some ⟨w.heap.size, 0, none⟩), .pointer (some ⟨w.heap.size + 1, 0, none⟩), undef, .pointer (some ⟨w.heap.size + 1 + 1, 0, none⟩), .pointer (some ⟨w.heap.size + 1 + 1 + 1, 0, none⟩), .slice A5 (1 + M) c5, undef, .pointer (some ⟨w.heap.size + 1, 0, none⟩), .string host, .agg #[.string ⟨#[72, 111, 115, 116]⟩, .string host], .pointer (some ⟨w.heap.size + 1, 1, none⟩), .int .i64 port, .bool false, undef, undef, undef, undef, undef, undef, undef, undef, .agg #[.string ⟨#[72, 111, 115, 116]⟩, .string host], .slice A1 1 c1, .pointer (some ⟨w.heap.size, 3, none⟩), .slice A n c, .slice A2 N c2, .slice A3 3 c3, .slice A4 M c4, .slice A5 (1 + M) c5, .pointer (some ⟨w.heap.size, 0, none⟩), .string s, .pointer (some ⟨w.heap.size + 1, 2, none⟩), .string path, undef, undef, undef, undef, undef, undef, undef, undef, undef, undef, undef, undef, undef], []⟩ _)
    · intro u hu
      obtain ⟨⟨hx, ht, ho, hh, hb⟩, hz⟩ := hu
      have c2 := ht.cell 2 rfl
      go_simp
    refine HT.take 4 (.slice A5 (1 + M) c5) rfl (by kernel_rfl) (fun _ _ _ h => h) (Or.inl ⟨by rfl, ?_⟩) (?_ : HT _ _ _ _ _ _ _ ⟨#[.agg #[.string s, .string r, .int .i64 m, .slice A n c], .agg #[.string host, .int .i64 port, .string path], .string via, .pointer (some ⟨w.heap.size, 0, none⟩), .pointer (some ⟨w.heap.size + 1, 0, none⟩), undef, .pointer (some ⟨w.heap.size + 1 + 1, 0, none⟩), .pointer (some ⟨w.heap.size + 1 + 1 + 1, 0, none⟩), .slice A5 (1 + M) c5, undef, .pointer (some ⟨w.heap.size + 1, 0, none⟩), .string host, .agg #[.string ⟨#[72, 111, 115, 116]⟩, .string host], .pointer (some ⟨w.heap.size + 1, 1, none⟩), .int .i64 port, .bool false, undef, undef, undef, undef, undef, undef, undef, undef, .agg #[.string ⟨#[72, 111, 115, 116]⟩, .string host], .slice A1 1 c1, .pointer (some ⟨w.heap.size, 3, none⟩), .slice A n c, .slice A2 N c2, .slice A3 3 c3, .slice A4 M c4, .slice A5 (1 + M) c5, .pointer (some ⟨w.heap.size, 0, none⟩), .string s, .pointer (some ⟨w.heap.size + 1, 2, none⟩), .string path, .slice A5 (1 + M) c5, undef, undef, undef, undef, undef, undef, undef, undef, undef, undef, undef, undef], []⟩ _)
    · intro u hu
      go_simp
    refine HT.take 5 (.pointer (some ⟨w.heap.size, 3, none⟩)) rfl (by kernel_rfl) (fun _ _ _ h => h) (Or.inl ⟨by rfl, ?_⟩) (?_ : HT _ _ _ _ _ _ _ ⟨#[.agg #[.string s, .string r, .int .i64 m, .slice A n c], .agg #[.string host, .int .i64 port, .string path], .string via, .pointer (some ⟨w.heap.size, 0, none⟩), .pointer (some ⟨w.heap.size + 1, 0, none⟩), undef, .pointer (some ⟨w.heap.size + 1 + 1, 0, none⟩), .pointer (some ⟨w.heap.size + 1 + 1 + 1, 0, none⟩), .slice A5 (1 + M) c5, undef, .pointer (some ⟨w.heap.size + 1, 0, none⟩), .string host, .agg #[.string ⟨#[72, 111, 115, 116]⟩, .string host], .pointer (some ⟨w.heap.size + 1, 1, none⟩), .int .i64 port, .bool false, undef, undef, undef, undef, undef, undef, undef, undef, .agg #[.string ⟨#[72, 111, 115, 116]⟩, .string host], .slice A1 1 c1, .pointer (some ⟨w.heap.size, 3, none⟩), .slice A n c, .slice A2 N c2, .slice A3 3 c3, .slice A4 M c4, .slice A5 (1 + M) c5, .pointer (some ⟨w.heap.size, 0, none⟩), .string s, .pointer (some ⟨w.heap.size + 1, 2, none⟩), .string path, .slice A5 (1 + M) c5, .pointer (some ⟨w.heap.size, 3, none⟩), undef, undef, undef, undef, undef, undef, undef, undef, undef, undef, undef], []⟩ _)
    · intro u hu
      go_simp
    refine HT.take 6 (.slice A n c) rfl (by kernel_rfl) (fun _ _ _ h => h) (Or.inl ⟨by rfl, ?_⟩) (?_ : HT _ _ _ _ _ _ _ ⟨#[.agg #[.string s, .string r, .int .i64 m, .slice A n c], .agg #[.string host, .int .i64 port, .string path], .string via, .pointer (some ⟨w.heap.size, 0, none⟩), .pointer (some ⟨w.heap.size + 1, 0, none⟩), undef, .pointer (some ⟨w.heap.size + 1 + 1, 0, none⟩), .pointer (some ⟨w.heap.size + 1 + 1 + 1, 0, none⟩), .slice A5 (1 + M) c5, undef, .pointer (some ⟨w.heap.size + 1, 0, none⟩), .string host, .agg #[.string ⟨#[72, 111, 115, 116]⟩, .string host], .pointer (some ⟨w.heap.size + 1, 1, none⟩), .int .i64 port, .bool false, undef, undef, undef, undef, undef, undef, undef, undef, .agg #[.string ⟨#[72, 111, 115, 116]⟩, .string host], .slice A1 1 c1, .pointer (some ⟨w.heap.size, 3, none⟩), .slice A n c, .slice A2 N c2, .slice A3 3 c3, .slice A4 M c4, .slice A5 (1 + M) c5, .pointer (some ⟨w.heap.size, 0, none⟩), .string s, .pointer (some ⟨w.heap.size + 1, 2, none⟩), .string path, .slice A5 (1 + M) c5, .pointer (some ⟨w.heap.size, 3, none⟩), .slice A n c, undef, undef, undef, undef, undef, undef, undef, undef, undef, undef], []⟩ _)
    · intro u hu
      obtain ⟨⟨hx, ht, ho, hh, hb⟩, hz⟩ := hu
      have c3 := hx.cell 3 rfl
      go_simp
    refine HT.take 7 (.pointer (some ⟨w.heap.size, 2, none⟩)) rfl (by kernel_rfl) (fun _ _ _ h => h) (Or.inl ⟨by rfl, ?_⟩) (?_ : HT _ _ _ _ _ _ _ ⟨#[.agg #[.string s, .string r, .int .i64 m, .slice A n c], .agg #[.string host, .int .i64 port, .string path], .string via, .pointer (some ⟨w.heap.size, 0, none⟩), .pointer (some ⟨w.heap.size + 1, 0, none⟩), undef, .pointer (some ⟨w.heap.size + 1 + 1, 0, none⟩), .pointer (some ⟨w.heap.size + 1 + 1 + 1, 0, none⟩), .slice A5 (1 + M) c5, undef, .pointer (some ⟨w.heap.size + 1, 0, none⟩), .string host, .agg #[.string ⟨#[72, 111, 115, 116]⟩, .string host], .pointer (some ⟨w.heap.size + 1, 1, none⟩), .int .i64 port, .bool false, undef, undef, undef, undef, undef, undef, undef, undef, .agg #[.string ⟨#[72, 111, 115, 116]⟩, .string host], .slice A1 1 c1, .pointer (some ⟨w.heap.size, 3, none⟩), .slice A n c, .slice A2 N c2, .slice A3 3 c3, .slice A4 M c4, .slice A5 (1 + M) c5, .pointer (some ⟨w.heap.size, 0, none⟩), .string s, .pointer (some ⟨w.heap.size + 1, 2, none⟩), .string path, .slice A5 (1 + M) c5, .pointer (some ⟨w.heap.size, 3, none⟩), .slice A n c, .pointer (some ⟨w.heap.size, 2, none⟩), undef, undef, undef, undef, undef, undef, undef, undef, undef], []⟩ _)
    · intro u hu
      go_simp
    refine HT.take 8 (.int .i64 m) rfl (by kernel_rfl) (fun _ _ _ h => h) (Or.inl ⟨by rfl, ?_⟩) (?_ : HT _ _ _ _ _ _ _ ⟨#[.agg #[.string s, .string r, .int .i64 m, .slice A n c], .agg #[.string host, .int .i64 port, .string path], .string via, .pointer (some ⟨w.heap.size, 0, none⟩), .pointer (some ⟨w.heap.size + 1, 0, none⟩), undef, .pointer (some ⟨w.heap.size + 1 + 1, 0, none⟩), .pointer (some ⟨w.heap.size + 1 + 1 + 1, 0, none⟩), .slice A5 (1 + M) c5, undef, .pointer (some ⟨w.heap.size + 1, 0, none⟩), .string host, .agg #[.string ⟨#[72, 111, 115, 116]⟩, .string host], .pointer (some ⟨w.heap.size + 1, 1, none⟩), .int .i64 port, .bool false, undef, undef, undef, undef, undef, undef, undef, undef, .agg #[.string ⟨#[72, 111, 115, 116]⟩, .string host], .slice A1 1 c1, .pointer (some ⟨w.heap.size, 3, none⟩), .slice A n c, .slice A2 N c2, .slice A3 3 c3, .slice A4 M c4, .slice A5 (1 + M) c5, .pointer (some ⟨w.heap.size, 0, none⟩), .string s, .pointer (some ⟨w.heap.size + 1, 2, none⟩), .string path, .slice A5 (1 + M) c5, .pointer (some ⟨w.heap.size, 3, none⟩), .slice A n c, .pointer (some ⟨w.heap.size, 2, none⟩), .int .i64 m, undef, undef, undef, undef, undef, undef, undef, undef], []⟩ _)
    · intro u hu
      obtain ⟨⟨hx, ht, ho, hh, hb⟩, hz⟩ := hu
      have c2 := hx.cell 2 rfl
      go_simp
    refine HT.take 9 (.string via) rfl (by kernel_rfl) (fun _ _ _ h => h) (Or.inl ⟨by rfl, ?_⟩) (?_ : HT _ _ _ _ _ _ _ ⟨#[.agg #[.string s, .string r, .int .i64 m, .slice A n c], .agg #[.string host, .int .i64 port, .string path], .string via, .pointer (some ⟨w.heap.size, 0, none⟩), .pointer (some ⟨w.heap.size + 1, 0, none⟩), undef, .pointer (some ⟨w.heap.size + 1 + 1, 0, none⟩), .pointer (some ⟨w.heap.size + 1 + 1 + 1, 0, none⟩), .slice A5 (1 + M) c5, undef, .pointer (some ⟨w.heap.size + 1, 0, none⟩), .string host, .agg #[.string ⟨#[72, 111, 115, 116]⟩, .string host], .pointer (some ⟨w.heap.size + 1, 1, none⟩), .int .i64 port, .bool false, undef, undef, undef, undef, undef, undef, undef, undef, .agg #[.string ⟨#[72, 111, 115, 116]⟩, .string host], .slice A1 1 c1, .pointer (some ⟨w.heap.size, 3, none⟩), .slice A n c, .slice A2 N c2, .slice A3 3 c3, .slice A4 M c4, .slice A5 (1 + M) c5, .pointer (some ⟨w.heap.size, 0, none⟩), .string s, .pointer (some ⟨w.heap.size + 1, 2, none⟩), .string path, .slice A5 (1 + M) c5, .pointer (some ⟨w.heap.size, 3, none⟩), .slice A n c, .pointer (some ⟨w.heap.size, 2, none⟩), .int .i64 m, .string via, undef, undef, undef, undef, undef, undef, undef], []⟩ _)
    · intro u hu
      go_simp
    refine HT.block (f0 := 1) [10, 11, 12] (fun j v u => match j with | 10 => SlRow w.heap.size 148 2 P.length (fcells P) v u | 11 => ∃ A6 c6, v = .agg #[.string s, .string path, .int .i64 1, .slice A6 P.length c6] ∧ Row u w.heap.size 148 2 A6 P.length c6 (fcells P) | 12 => PtrBlk w8.heap.size #[.string ⟨#[]⟩, .string ⟨#[]⟩, .int .i64 0, .slice none 0 0] 25 v u | _ => True) (fun vs => ⟨#[.agg #[.string s, .string r, .int .i64 m, .slice A n c], .agg #[.string host, .int .i64 port, .string path], .string via, .pointer (some ⟨w.heap.size, 0, none⟩), .pointer (some ⟨w.heap.size + 1, 0, none⟩), undef, .pointer (some ⟨w.heap.size + 1 + 1, 0, none⟩), .pointer (some ⟨w.heap.size + 1 + 1 + 1, 0, none⟩), .slice A5 (1 + M) c5, vs 12, .pointer (some ⟨w.heap.size + 1, 0, none⟩), .string host, .agg #[.string ⟨#[72, 111, 115, 116]⟩, .string host], .pointer (some ⟨w.heap.size + 1, 1, none⟩), .int .i64 port, .bool false, undef, undef, undef, undef, undef, undef, undef, undef, .agg #[.string ⟨#[72, 111, 115, 116]⟩, .string host], .slice A1 1 c1, .pointer (some ⟨w.heap.size, 3, none⟩), .slice A n c, .slice A2 N c2, .slice A3 3 c3, .slice A4 M c4, .slice A5 (1 + M) c5, .pointer (some ⟨w.heap.size, 0, none⟩), .string s, .pointer (some ⟨w.heap.size + 1, 2, none⟩), .string path, .slice A5 (1 + M) c5, .pointer (some ⟨w.heap.size, 3, none⟩), .slice A n c, .pointer (some ⟨w.heap.size, 2, none⟩), .int .i64 m, .string via, vs 10, vs 11, undef, undef, undef, undef, undef], []⟩) (fun _ => rfl) (by kernel_rfl) (fun u u' hb h => ⟨h.1.below hb, Nat.le_trans h.2.1 hb.size, h.2.2.below hb⟩) (fun j v u u' hb h => by revert h; split <;> intro h <;> first | exact h.below hb | (obtain ⟨A6, c6, hv, hr⟩ := h; exact ⟨A6, c6, hv, hr.below hb⟩) | trivial) (List.forall_mem_cons.2 ⟨⟨_, rfl, ?_⟩, List.forall_mem_cons.2 ⟨⟨_, rfl, ?_⟩, List.forall_mem_cons.2 ⟨⟨_, rfl, ?_⟩, fun _ h => by cases h⟩⟩⟩) ?_
    · intro vs u hS hd K hK
      go_simp
      refine (hV'.out A5 c5 u hS.1.2.2.2.2 hS.2.2).mono ?_
      rintro e w9 ⟨A6, c6, rfl, hr, hb⟩
      exact hK.out (.slice A6 P.length c6) _ ⟨A6, c6, rfl, hr.mono hS.1.2.2.2.2.size⟩ hb
    · intro vs u hS hd K hK
      obtain ⟨A6, c6, e1, hr6⟩ : SlRow w.heap.size 148 2 P.length (fcells P) (vs 10) u := hd 10 (by simp) (by kernel_rfl)
      have hk : K (⟨#[.agg #[.string s, .string r, .int .i64 m, .slice A n c], .agg #[.string host, .int .i64 port, .string path], .string via, .pointer (some ⟨w.heap.size, 0, none⟩), .pointer (some ⟨w.heap.size + 1, 0, none⟩), undef, .pointer (some ⟨w.heap.size + 1 + 1, 0, none⟩), .pointer (some ⟨w.heap.size + 1 + 1 + 1, 0, none⟩), .slice A5 (1 + M) c5, vs 12, .pointer (some ⟨w.heap.size + 1, 0, none⟩), .string host, .agg #[.string ⟨#[72, 111, 115, 116]⟩, .string host], .pointer (some ⟨w.heap.size + 1, 1, none⟩), .int .i64 port, .bool false, undef, undef, undef, undef, undef, undef, undef, undef, .agg #[.string ⟨#[72, 111, 115, 116]⟩, .string host], .slice A1 1 c1, .pointer (some ⟨w.heap.size, 3, none⟩), .slice A n c, .slice A2 N c2, .slice A3 3 c3, .slice A4 M c4, .slice A5 (1 + M) c5, .pointer (some ⟨w.heap.size, 0, none⟩), .string s, .pointer (some ⟨w.heap.size + 1, 2, none⟩), .string path, .slice A5 (1 + M) c5, .pointer (some ⟨w.heap.size, 3, none⟩), .slice A n c, .pointer (some ⟨w.heap.size, 2, none⟩), .int .i64 m, .string via, vs 10, .agg #[.string s, .string path, .int .i64 1, .slice A6 P.length c6], undef, undef, undef, undef, undef], []⟩) u := hK.out (.agg #[.string s, .string path, .int .i64 1, .slice A6 P.length c6]) _ ⟨A6, c6, rfl, hr6⟩ (Below.refl _ _)
      rw [e1] at hk
      have HK := Lib.hid hk
      clear hk hK hd
      go_simp
      exact HK.out
    · intro vs u hS hd K hK
      go_simp
      exact hK.out (.pointer (some ⟨u.heap.size, 0, none⟩)) _ ⟨_, rfl, hS.2.1, Blk.new u _ _⟩ ((Below.refl _ _).alloc (Nat.le_refl _) _)
    intro vs u hS hR
    have hv42 := hR 10 (by simp)
    generalize vs 10 = v42 at *
    have hv43 := hR 11 (by simp)
    generalize vs 11 = v43 at *
    have hv9 := hR 12 (by simp)
    generalize vs 12 = v9 at *
    clear hR
    refine (?_ : HT _ _ _ _ _ _ _ ⟨#[.agg #[.string s, .string r, .int .i64 m, .slice A n c], .agg #[.string host, .int .i64 port, .string path], .string via, .pointer (some ⟨w.heap.size, 0, none⟩), .pointer (some ⟨w.heap.size + 1, 0, none⟩), undef, .pointer (some ⟨w.heap.size + 1 + 1, 0, none⟩), .pointer (some ⟨w.heap.size + 1 + 1 + 1, 0, none⟩), .slice A5 (1 + M) c5, v9, .pointer (some ⟨w.heap.size + 1, 0, none⟩), .string host, .agg #[.string ⟨#[72, 111, 115, 116]⟩, .string host], .pointer (some ⟨w.heap.size + 1, 1, none⟩), .int .i64 port, .bool false, undef, undef, undef, undef, undef, undef, undef, undef, .agg #[.string ⟨#[72, 111, 115, 116]⟩, .string host], .slice A1 1 c1, .pointer (some ⟨w.heap.size, 3, none⟩), .slice A n c, .slice A2 N c2, .slice A3 3 c3, .slice A4 M c4, .slice A5 (1 + M) c5, .pointer (some ⟨w.heap.size, 0, none⟩), .string s, .pointer (some ⟨w.heap.size + 1, 2, none⟩), .string path, .slice A5 (1 + M) c5, .pointer (some ⟨w.heap.size, 3, none⟩), .slice A n c, .pointer (some ⟨w.heap.size, 2, none⟩), .int .i64 m, .string via, v42, v43, undef, undef, undef, undef, undef], []⟩ _)
    obtain ⟨A7, c7, rfl, _⟩ := hv42
    obtain ⟨A6, c6, rfl, hr6⟩ := hv43
    obtain ⟨b9, rfl, hb9, hk9⟩ := hv9
    refine HT.tail _ rfl rfl (by kernel_rfl) (fun hS => ?_)
    have HS9 := Lib.hid hS.1
    obtain ⟨c0, c1, c2, c3⟩ := hk9.cells4
    obtain ⟨f0, f1, f2, f3⟩ := hk9.free4
    have HK := Lib.hid (hk9.set4 (.string s) (.string path) (.int .i64 1) (.slice A6 P.length c6))
    have HR := Lib.hid (hr6.farT4 hk9 (by decide) (.string s) (.string path) (.int .i64 1) (.slice A6 P.length c6))
    have HO := Lib.hid (HS9.out.2.2.1.far4 (b' := b9) (by omega) (.string s) (.string path) (.int .i64 1) (.slice A6 P.length c6))
    have HB := Lib.hid (below_four HS9.out.2.2.2.2 (b := b9) (by omega) (.string s) (.string path) (.int .i64 1) (.slice A6 P.length c6))
    clear hS hk9 hr6 HS8 HS9
    go_wp2
    refine NoPanic.normal ?_
    clear c0 c1 c2 c3 f0 f1 f2 f3
    generalize ((((u.setCell ⟨b9, 0, none⟩ (.string s)).setCell ⟨b9, 1, none⟩ (.string path)).setCell ⟨b9, 2, none⟩ (.int .i64 1)).setCell ⟨b9, 3, none⟩ (.slice A6 P.length c6)) = w9 at *
    by_cases hpe : path = ⟨#[]⟩
    · subst hpe
      obtain ⟨c0, c1, c2, c3⟩ := HK.out.cells4
      obtain ⟨f0, f1, f2, f3⟩ := HK.out.free4
      have HK2 := Lib.hid (HK.out.set 1 (.string ⟨#[47]⟩))
      have HO2 := Lib.hid (HO.out.far (b' := b9) 1 (.string ⟨#[47]⟩) (by omega))
      have HR2 := Lib.hid (HR.out.farT HK.out (by decide) 1 (.string ⟨#[47]⟩))
      have HB2 := Lib.hid (below_set HB.out (b := b9) (by omega) 1 (.string ⟨#[47]⟩))
      have d0 := HK2.out.cell 0 (v := .string s) rfl
      have d1 := HK2.out.cell 1 (v := .string ⟨#[47]⟩) rfl
      have d2 := HK2.out.cell 2 (v := .int .i64 1) rfl
      have d3 := HK2.out.cell 3 (v := .slice A6 P.length c6) rfl
      obtain ⟨o0, o1, o2, o3⟩ := HO2.out.cells4
      obtain ⟨g0, g1, g2, g3⟩ := HO2.out.free4
      clear HK HO HR HB HK2
      go_wp2
      have hk := HO2.out.set4 (.string s) (.string ⟨#[47]⟩) (.int .i64 1) (.slice A6 P.length c6)
      have hr := HR2.out.farT4 HO2.out (by decide) (.string s) (.string ⟨#[47]⟩) (.int .i64 1) (.slice A6 P.length c6)
      have hb := below_four HB2.out (b := w.heap.size + 1 + 1) (by omega) (.string s) (.string ⟨#[47]⟩) (.int .i64 1) (.slice A6 P.length c6)
      clear d0 d1 d2 d3 o0 o1 o2 o3 g0 g1 g2 g3 c0 c1 c2 c3 f0 f1 f2 f3 HO2 HR2 HB2
      generalize (((((w9.setCell ⟨b9, 1, none⟩ (.string ⟨#[47]⟩)).setCell ⟨w.heap.size + 1 + 1, 0, none⟩ (.string s)).setCell ⟨w.heap.size + 1 + 1, 1, none⟩ (.string ⟨#[47]⟩)).setCell ⟨w.heap.size + 1 + 1, 2, none⟩ (.int .i64 1)).setCell ⟨w.heap.size + 1 + 1, 3, none⟩ (.slice A6 P.length c6)) = W at *
      obtain ⟨d0, d1, d2, d3⟩ := hk.cells4
      refine bodyPost_ret (v := .agg #[.string s, .string ⟨#[47]⟩, .int .i64 1, .slice A6 P.length c6]) (by simp [results, Tryz.results39, go_sem, d0, d1, d2, d3]) rfl ?_
      exact ⟨A6, c6, rfl, hr, hb⟩
    · have he1 : ¬ path.toList = [] := fun h => hpe (toList_inj.1 (h.trans (by simp)))
      have he2 : path.toList.isEmpty = false := by cases h : path.toList <;> simp_all
      have HP : Hid (F.pathOf path = path) := if_neg hpe
      obtain ⟨d0, d1, d2, d3⟩ := HK.out.cells4
      obtain ⟨o0, o1, o2, o3⟩ := HO.out.cells4
      obtain ⟨g0, g1, g2, g3⟩ := HO.out.free4
      clear HK hpe
      go_wp2
      have hk := HO.out.set4 (.string s) (.string path) (.int .i64 1) (.slice A6 P.length c6)
      have hr := HR.out.farT4 HO.out (by decide) (.string s) (.string path) (.int .i64 1) (.slice A6 P.length c6)
      have hb := below_four HB.out (b := w.heap.size + 1 + 1) (by omega) (.string s) (.string path) (.int .i64 1) (.slice A6 P.length c6)
      clear d0 d1 d2 d3 o0 o1 o2 o3 g0 g1 g2 g3 HO HR HB he1 he2
      generalize ((((w9.setCell ⟨w.heap.size + 1 + 1, 0, none⟩ (.string s)).setCell ⟨w.heap.size + 1 + 1, 1, none⟩ (.string path)).setCell ⟨w.heap.size + 1 + 1, 2, none⟩ (.int .i64 1)).setCell ⟨w.heap.size + 1 + 1, 3, none⟩ (.slice A6 P.length c6)) = W at *
      obtain ⟨d0, d1, d2, d3⟩ := hk.cells4
      refine bodyPost_ret (v := .agg #[.string s, .string path, .int .i64 1, .slice A6 P.length c6]) (by simp [results, Tryz.results39, go_sem, d0, d1, d2, d3]) rfl ?_
      exact ⟨A6, c6, by rw [HP.out], hr, hb⟩

set_option maxRecDepth 100000 in
set_option maxHeartbeats 2000000 in
theorem request_port (s r via host path I hv : ByteArray) (m port : Int) (A : Option Addr) (n c N M : Nat) (T U P : List FD) (w : World)
    (hSt : Hid (∀ w1 : World, Below w.heap.size w w1 → Calls Tryz.prog 79 #[.slice A n c] w1 (RetRow w1 148 2 N (fcells T))))
    (hW : Hid (∀ (A1 : Option Addr) (c1 : Nat) (X : Option Addr) (d : Nat) (w1 : World), Rd w1 A1 N 2 (fcells T) → (A1 = none → N = 0 ∧ c1 = 0) → Rd w1 X 3 1 (scells F.three) → Calls Tryz.prog 81 #[.slice A1 N c1, .slice X 3 d] w1 (RetRow w1 148 2 M (fcells U))))
    (hV : Hid (∀ (A1 : Option Addr) (c1 : Nat) (w1 : World), Below w.heap.size w w1 → Rd w1 A1 (1 + M) 2 (fcells ([(F.hostN, hv)] ++ U)) → Calls Tryz.prog 90 #[.slice A1 (1 + M) c1, .slice A n c, .int .i64 m, .string via] w1 (RetRow w1 148 2 P.length (fcells P))))
    (hM : M ≤ 1099511627776)
    (hI : Hid (∀ w1 : World, Below w.heap.size w w1 → Calls Tryz.prog 89 #[.int .i64 port] w1 (RetS w1 I))) (hIs : I.size ≤ 9223372036854775806) (hhs : host.size + (1 + I.size) ≤ 9223372036854775807) (hp : ¬ port = 80) (HHV : Hid (hv = host ++ (⟨#[58]⟩ ++ I))) :
    Calls Tryz.prog 39 #[.agg #[.string s, .string r, .int .i64 m, .slice A n c], .agg #[.string host, .int .i64 port, .string path], .string via] w (RetQ w s (F.pathOf path) 1 P) := by
    have hpb : (port != 80) = true := by simpa using hp
    clear hp
    go_enter Tryz.func39, Tryz.ntmps39
    go_wp2
    have hS0 := (ReqS.start w #[.string s, .string r, .int .i64 m, .slice A n c] #[.string host, .int .i64 port, .string path] #[.string ⟨#[]⟩, .string ⟨#[]⟩, .int .i64 0, .slice none 0 0] #[.string ⟨#[72, 111, 115, 116]⟩, .string host]).below (Below.refl _ _).drew
    generalize ((((w.alloc (.cells #[.string s, .string r, .int .i64 m, .slice A n c] 25)).alloc (.cells #[.string host, .int .i64 port, .string path] 66)).alloc (.cells #[.string ⟨#[]⟩, .string ⟨#[]⟩, .int .i64 0, .slice none 0 0] 25)).alloc (.cells #[.string ⟨#[72, 111, 115, 116]⟩, .string host] 148)) = w4 at *
    refine wp_region_noPanic ?_
    refine HT.begin (n := 8) (S := ReqS w #[.string s, .string r, .int .i64 m, .slice A n c] #[.string host, .int .i64 port, .string path] #[.string ⟨#[]⟩, .string ⟨#[]⟩, .int .i64 0, .slice none 0 0] #[.string ⟨#[72, 111, 115, 116]⟩, .string host]) (by kernel_rfl) hS0 ?_
    refine HT.take 0 (.pointer (some ⟨w.heap.size + 1 + 1 + 1, 1, none⟩)) rfl (by kernel_rfl) (fun _ _ _ h => h) (Or.inl ⟨by rfl, ?_⟩) (?_ : HT _ _ _ _ _ _ _ ⟨#[.agg #[.string s, .string r, .int .i64 m, .slice A n c], .agg #[.string host, .int .i64 port, .string path], .string via, .pointer (some ⟨w.heap.size, 0, none⟩), .pointer (some ⟨w.heap.size + 1, 0, none⟩), undef, .pointer (some ⟨w.heap.size + 1 + 1, 0, none⟩), .pointer (some ⟨w.heap.size + 1 + 1 + 1, 0, none⟩), undef, undef, .pointer (some ⟨w.heap.size + 1, 0, none⟩), .string host, .agg #[.string ⟨#[72, 111, 115, 116]⟩, .string host], .pointer (some ⟨w.heap.size + 1, 1, none⟩), .int .i64 port, .bool true, .pointer (some ⟨w.heap.size + 1 + 1 + 1, 1, none⟩), undef, undef, undef, undef, undef, undef, undef, undef, undef, undef, undef, undef, undef, undef, undef, undef, undef, undef, undef, undef, undef, undef, undef, undef, undef, undef, undef, undef, undef, undef, undef, undef], []⟩ _)
    · intro u hu
      go_simp
    refine HT.take 1 (.string host) rfl (by kernel_rfl) (fun _ _ _ h => h) (Or.inl ⟨by rfl, ?_⟩) (?_ : HT _ _ _ _ _ _ _ ⟨#[.agg #[.string s, .string r, .int .i64 m, .slice A n c], .agg #[.string host, .int .i64 port, .string path], .string via, .pointer (some ⟨w.heap.size, 0, none⟩), .pointer (some ⟨w.heap.size + 1, 0, none⟩), undef, .pointer (some ⟨w.heap.size + 1 + 1, 0, none⟩), .pointer (some ⟨w.heap.size + 1 + 1 + 1, 0, none⟩), undef, undef, .pointer (some ⟨w.heap.size + 1, 0, none⟩), .string host, .agg #[.string ⟨#[72, 111, 115, 116]⟩, .string host], .pointer (some ⟨w.heap.size + 1, 1, none⟩), .int .i64 port, .bool true, .pointer (some ⟨w.heap.size + 1 + 1 + 1, 1, none⟩), .string host, undef, undef, undef, undef, undef, undef, undef, undef, undef, undef, undef, undef, undef, undef, undef, undef, undef, undef, undef, undef, undef, undef, undef, undef, undef, undef, undef, undef, undef, undef, undef], []⟩ _)
    · intro u hu
      obtain ⟨hx, ht, ho, hh, hb⟩ := hu
      have c1 := hh.cell 1 rfl
      go_simp
    refine HT.take 2 (.pointer (some ⟨w.heap.size + 1, 1, none⟩)) rfl (by kernel_rfl) (fun _ _ _ h => h) (Or.inl ⟨by rfl, ?_⟩) (?_ : HT _ _ _ _ _ _ _ ⟨#[.agg #[.string s, .string r, .int .i64 m, .slice A n c], .agg #[.string host, .int .i64 port, .string path], .string via, .pointer (some ⟨w.heap.size, 0, none⟩), .pointer (some ⟨w.heap.size + 1, 0, none⟩), undef, .pointer (some ⟨w.heap.size + 1 + 1, 0, none⟩), .pointer (some ⟨w.heap.size + 1 + 1 + 1, 0, none⟩), undef, undef, .pointer (some ⟨w.heap.size + 1, 0, none⟩), .string host, .agg #[.string ⟨#[72, 111, 115, 116]⟩, .string host], .pointer (some ⟨w.heap.size + 1, 1, none⟩), .int .i64 port, .bool true, .pointer (some ⟨w.heap.size + 1 + 1 + 1, 1, none⟩), .string host, .pointer (some ⟨w.heap.size + 1, 1, none⟩), undef, undef, undef, undef, undef, undef, undef, undef, undef, undef, undef, undef, undef, undef, undef, undef, undef, undef, undef, undef, undef, undef, undef, undef, undef, undef, undef, undef, undef, undef], []⟩ _)
    · intro u hu
      go_simp
    refine HT.take 3 (.int .i64 port) rfl (by kernel_rfl) (fun _ _ _ h => h) (Or.inl ⟨by rfl, ?_⟩) (?_ : HT _ _ _ _ _ _ _ ⟨#[.agg #[.string s, .string r, .int .i64 m, .slice A n c], .agg #[.string host, .int .i64 port, .string path], .string via, .pointer (some ⟨w.heap.size, 0, none⟩), .pointer (some ⟨w.heap.size + 1, 0, none⟩), undef, .pointer (some ⟨w.heap.size + 1 + 1, 0, none⟩), .pointer (some ⟨w.heap.size + 1 + 1 + 1, 0, none⟩), undef, undef, .pointer (some ⟨w.heap.size + 1, 0, none⟩), .string host, .agg #[.string ⟨#[72, 111, 115, 116]⟩, .string host], .pointer (some ⟨w.heap.size + 1, 1, none⟩), .int .i64 port, .bool true, .pointer (some ⟨w.heap.size + 1 + 1 + 1, 1, none⟩), .string host, .pointer (some ⟨w.heap.size + 1, 1, none⟩), .int .i64 port, undef, undef, undef, undef, undef, undef, undef, undef, undef, undef, undef, undef, undef, undef, undef, undef, undef, undef, undef, undef, undef, undef, undef, undef, undef, undef, undef, undef, undef], []⟩ _)
    · intro u hu
      obtain ⟨hx, ht, ho, hh, hb⟩ := hu
      have c1 := ht.cell 1 rfl
      go_simp
    refine HT.step 4 rfl (by kernel_rfl) (fun hS K hK => ?_)
    go_simp
    refine (hI.out _ hS.2.2.2.2).mono ?_
    rintro e w5 ⟨rfl, hb5⟩
    refine hK.out _ _ (hS.below hb5) ?_
    clear hK hS hb5
    refine HT.take 5 (.string (⟨#[58]⟩ ++ I)) rfl (by kernel_rfl) (fun _ _ _ h => h) (Or.inl ⟨by rfl, ?_⟩) (?_ : HT _ _ _ _ _ _ _ ⟨#[.agg #[.string s, .string r, .int .i64 m, .slice A n c], .agg #[.string host, .int .i64 port, .string path], .string via, .pointer (some ⟨w.heap.size, 0, none⟩), .pointer (some ⟨w.heap.size + 1, 0, none⟩), undef, .pointer (some ⟨w.heap.size + 1 + 1, 0, none⟩), .pointer (some ⟨w.heap.size + 1 + 1 + 1, 0, none⟩), undef, undef, .pointer (some ⟨w.heap.size + 1, 0, none⟩), .string host, .agg #[.string ⟨#[72, 111, 115, 116]⟩, .string host], .pointer (some ⟨w.heap.size + 1, 1, none⟩), .int .i64 port, .bool true, .pointer (some ⟨w.heap.size + 1 + 1 + 1, 1, none⟩), .string host, .pointer (some ⟨w.heap.size + 1, 1, none⟩), .int .i64 port, .string I, .string (⟨#[58]⟩ ++ I), undef, undef, undef, undef, undef, undef, undef, undef, undef, undef, undef, undef, undef, undef, undef, undef, undef, undef, undef, undef, undef, undef, undef, undef, undef, undef, undef], []⟩ _)
    · intro u hu
      go_simp
      omega
    refine HT.take 6 (.string (host ++ (⟨#[58]⟩ ++ I))) rfl (by kernel_rfl) (fun _ _ _ h => h) (Or.inl ⟨by rfl, ?_⟩) (?_ : HT _ _ _ _ _ _ _ ⟨#[.agg #[.string s, .string r, .int .i64 m, .slice A n c], .agg #[.string host, .int .i64 port, .string path], .string via, .pointer (some ⟨w.heap.size, 0, none⟩), .pointer (some ⟨w.heap.size + 1, 0, none⟩), undef, .pointer (some ⟨w.heap.size + 1 + 1, 0, none⟩), .pointer (some ⟨w.heap.size + 1 + 1 + 1, 0, none⟩), undef, undef, .pointer (some ⟨w.heap.size + 1, 0, none⟩), .string host, .agg #[.string ⟨#[72, 111, 115, 116]⟩, .string host], .pointer (some ⟨w.heap.size + 1, 1, none⟩), .int .i64 port, .bool true, .pointer (some ⟨w.heap.size + 1 + 1 + 1, 1, none⟩), .string host, .pointer (some ⟨w.heap.size + 1, 1, none⟩), .int .i64 port, .string I, .string (⟨#[58]⟩ ++ I), .string (host ++ (⟨#[58]⟩ ++ I)), undef, undef, undef, undef, undef, undef, undef, undef, undef, undef, undef, undef, undef, undef, undef, undef, undef, undef, undef, undef, undef, undef, undef, undef, undef, undef], []⟩ _)
    · intro u hu
      go_simp
    refine HT.take 7 (.pointer (some ⟨w.heap.size + 1 + 1 + 1, 1, none⟩)) rfl (by kernel_rfl) (fun _ _ _ h => h) (Or.inl ⟨by rfl, ?_⟩) (?_ : HT _ _ _ _ _ _ _ ⟨#[.agg #[.string s, .string r, .int .i64 m, .slice A n c], .agg #[.string host, .int .i64 port, .string path], .string via, .pointer (some ⟨w.heap.size, 0, none⟩), .pointer (some ⟨w.heap.size + 1, 0, none⟩), undef, .pointer (some ⟨w.heap.size + 1 + 1, 0, none⟩), .pointer (some ⟨w.heap.size + 1 + 1 + 1, 0, none⟩), undef, undef, .pointer (some ⟨w.heap.size + 1, 0, none⟩), .string host, .agg #[.string ⟨#[72, 111, 115, 116]⟩, .string host], .pointer (some ⟨w.heap.size + 1, 1, none⟩), .int .i64 port, .bool true, .pointer (some ⟨w.heap.size + 1 + 1 + 1, 1, none⟩), .string host, .pointer (some ⟨w.heap.size + 1, 1, none⟩), .int .i64 port, .string I, .string (⟨#[58]⟩ ++ I), .string (host ++ (⟨#[58]⟩ ++ I)), .pointer (some ⟨w.heap.size + 1 + 1 + 1, 1, none⟩), undef, undef, undef, undef, undef, undef, undef, undef, undef, undef, undef, undef, undef, undef, undef, undef, undef, undef, undef, undef, undef, undef, undef, undef, undef], []⟩ _)
    · intro u hu
      go_simp
    refine HT.tail _ rfl rfl (by kernel_rfl) (fun hS => ?_)
    obtain ⟨hx, ht, ho, hh, hb⟩ := hS
    have c1 := hh.cell 1 rfl
    have f1 := hh.free 1
    have HS6 : Hid (ReqS w #[.string s, .string r, .int .i64 m, .slice A n c] #[.string host, .int .i64 port, .string path] #[.string ⟨#[]⟩, .string ⟨#[]⟩, .int .i64 0, .slice none 0 0] #[.string ⟨#[72, 111, 115, 116]⟩, .string (host ++ (⟨#[58]⟩ ++ I))] (w5.setCell ⟨w.heap.size + 1 + 1 + 1, 1, none⟩ (.string (host ++ (⟨#[58]⟩ ++ I))))) := Lib.hid ⟨hx.far (b' := w.heap.size + 1 + 1 + 1) 1 _ (by omega), ht.far (b' := w.heap.size + 1 + 1 + 1) 1 _ (by omega), ho.far (b' := w.heap.size + 1 + 1 + 1) 1 _ (by omega), hh.set 1 _, hb.setCell (p := ⟨w.heap.size + 1 + 1 + 1, 1, none⟩) (by show w.heap.size ≤ w.heap.size + 1 + 1 + 1; omega) _⟩
    clear hx ht ho hh hb
    go_wp2
    clear c1 f1
    refine NoPanic.normal ?_
    go_wp2
    generalize w5.setCell ⟨w.heap.size + 1 + 1 + 1, 1, none⟩ (.string (host ++ (⟨#[58]⟩ ++ I))) = w6 at *
    have hz6 : w.heap.size + 4 ≤ w6.heap.size := by have := HS6.out.2.2.2.1.lt; omega
    have HV' := hV.out
    rw [HHV.out] at HV'
    have hV' := Lib.hid HV'
    clear HV'
    have hS0 : (ReqS w #[.string s, .string r, .int .i64 m, .slice A n c] #[.string host, .int .i64 port, .string path] #[.string ⟨#[]⟩, .string ⟨#[]⟩, .int .i64 0, .slice none 0 0] #[.string ⟨#[72, 111, 115, 116]⟩, .string (host ++ (⟨#[58]⟩ ++ I))] w6.drew ∧ w6.heap.size ≤ w6.drew.heap.size) := ⟨HS6.out.below (Below.refl _ _).drew, Nat.le_refl _⟩
    refine wp_region_noPanic ?_
    refine HT.begin (n := 7) (S := fun u => ReqS w #[.string s, .string r, .int .i64 m, .slice A n c] #[.string host, .int .i64 port, .string path] #[.string ⟨#[]⟩, .string ⟨#[]⟩, .int .i64 0, .slice none 0 0] #[.string ⟨#[72, 111, 115, 116]⟩, .string (host ++ (⟨#[58]⟩ ++ I))] u ∧ w6.heap.size ≤ u.heap.size) (by kernel_rfl) hS0 ?_
    refine HT.take 0 (.agg #[.string ⟨#[72, 111, 115, 116]⟩, .string (host ++ (⟨#[58]⟩ ++ I))]) rfl (by kernel_rfl) (fun _ _ _ h => h) (Or.inl ⟨by rfl, ?_⟩) (?_ : HT _ _ _ _ _ _ _ ⟨#[.agg #[.string s, .string r, .int .i64 m, .slice A n c], .agg #[.string host, .int .i64 port, .string path], .string via, .pointer (some ⟨w.heap.size, 0, none⟩), .pointer (some ⟨w.heap.size + 1, 0, none⟩), undef, .pointer (some ⟨w.heap.size + 1 + 1, 0, none⟩), .pointer (some ⟨w.heap.size + 1 + 1 + 1, 0, none⟩), undef, undef, .pointer (some ⟨w.heap.size + 1, 0, none⟩), .string host, .agg #[.string ⟨#[72, 111, 115, 116]⟩, .string host], .pointer (some ⟨w.heap.size + 1, 1, none⟩), .int .i64 port, .bool true, .pointer (some ⟨w.heap.size + 1 + 1 + 1, 1, none⟩), .string host, .pointer (some ⟨w.heap.size + 1, 1, none⟩), .int .i64 port, .string I, .string (⟨#[58]⟩ ++ I), .string (host ++ (⟨#[58]⟩ ++ I)), .pointer (some ⟨w.heap.size + 1 + 1 + 1, 1, none⟩), .agg #[.string ⟨#[72, 111, 115, 116]⟩, .string (host ++ (⟨#[58]⟩ ++ I))], undef, undef, undef, undef, undef, undef, undef, undef, undef, undef, undef, undef, undef, undef, undef, undef, undef, undef, undef, undef, undef, undef, undef, undef], []⟩ _)
    · intro u hu
      obtain ⟨⟨hx, ht, ho, hh, hb⟩, hz⟩ := hu
      have c0 := hh.cell 0 rfl
      have c1 := hh.cell 1 rfl
      go_simp
    refine HT.take 2 (.pointer (some ⟨w.heap.size, 3, none⟩)) rfl (by kernel_rfl) (fun _ _ _ h => h) (Or.inl ⟨by rfl, ?_⟩) (?_ : HT _ _ _ _ _ _ _ ⟨#[.agg #[.string s, .string r, .int .i64 m, .slice A n c], .agg #[.string host, .int .i64 port, .string path], .string via, .pointer (some ⟨w.heap.size, 0, none⟩), .pointer (some ⟨w.heap.size + 1, 0, none⟩), undef, .pointer (some ⟨w.heap.size + 1 + 1, 0, none⟩), .pointer (some ⟨w.heap.size + 1 + 1 + 1, 0, none⟩), undef, undef, .pointer (some ⟨w.heap.size + 1, 0, none⟩), .string host, .agg #[.string ⟨#[72, 111, 115, 116]⟩, .string host], .pointer (some ⟨w.heap.size + 1, 1, none⟩), .int .i64 port, .bool true, .pointer (some ⟨w.heap.size + 1 + 1 + 1, 1, none⟩), .string host, .pointer (some ⟨w.heap.size + 1, 1, none⟩), .int .i64 port, .string I, .string (⟨#[58]⟩ ++ I), .string (host ++ (⟨#[58]⟩ ++ I)), .pointer (some ⟨w.heap.size + 1 + 1 + 1, 1, none⟩), .agg #[.string ⟨#[72, 111, 115, 116]⟩, .string (host ++ (⟨#[58]⟩ ++ I))], undef, .pointer (some ⟨w.heap.size, 3, none⟩), undef, undef, undef, undef, undef, undef, undef, undef, undef, undef, undef, undef, undef, undef, undef, undef, undef, undef, undef, undef, undef, undef], []⟩ _)
    · intro u hu
      go_simp
    refine HT.take 3 (.slice A n c) rfl (by kernel_rfl) (fun _ _ _ h => h) (Or.inl ⟨by rfl, ?_⟩) (?_ : HT _ _ _ _ _ _ _ ⟨#[.agg #[.string s, .string r, .int .i64 m, .slice A n c], .agg #[.string host, .int .i64 port, .string path], .string via, .pointer (some ⟨w.heap.size, 0, none⟩), .pointer (some ⟨w.heap.size + 1, 0, none⟩), undef, .pointer (some ⟨w.heap.size + 1 + 1, 0, none⟩), .pointer (some ⟨w.heap.size + 1 + 1 + 1, 0, none⟩), undef, undef, .pointer (some ⟨w.heap.size + 1, 0, none⟩), .string host, .agg #[.string ⟨#[72, 111, 115, 116]⟩, .string host], .pointer (some ⟨w.heap.size + 1, 1, none⟩), .int .i64 port, .bool true, .pointer (some ⟨w.heap.size + 1 + 1 + 1, 1, none⟩), .string host, .pointer (some ⟨w.heap.size + 1, 1, none⟩), .int .i64 port, .string I, .string (⟨#[58]⟩ ++ I), .string (host ++ (⟨#[58]⟩ ++ I)), .pointer (some ⟨w.heap.size + 1 + 1 + 1, 1, none⟩), .agg #[.string ⟨#[72, 111, 115, 116]⟩, .string (host ++ (⟨#[58]⟩ ++ I))], undef, .pointer (some ⟨w.heap.size, 3, none⟩), .slice A n c, undef, undef, undef, undef, undef, undef, undef, undef, undef, undef, undef, undef, undef, undef, undef, undef, undef, undef, undef, undef, undef], []⟩ _)
    · intro u hu
      obtain ⟨⟨hx, ht, ho, hh, hb⟩, hz⟩ := hu
      have c3 := hx.cell 3 rfl
      go_simp
    refine HT.block (f0 := 2) [1, 4, 5, 6] (fun j v u => match j with | 1 => SlRow w6.heap.size 148 2 1 (fcells [(F.hostN, (host ++ (⟨#[58]⟩ ++ I)))]) v u | 4 => SlRow w.heap.size 148 2 N (fcells T) v u | 5 => SlRd 1 3 (scells F.three) v u | 6 => SlRow w.heap.size 148 2 M (fcells U) v u | _ => True) (fun vs => ⟨#[.agg #[.string s, .string r, .int .i64 m, .slice A n c], .agg #[.string host, .int .i64 port, .string path], .string via, .pointer (some ⟨w.heap.size, 0, none⟩), .pointer (some ⟨w.heap.size + 1, 0, none⟩), undef, .pointer (some ⟨w.heap.size + 1 + 1, 0, none⟩), .pointer (some ⟨w.heap.size + 1 + 1 + 1, 0, none⟩), undef, undef, .pointer (some ⟨w.heap.size + 1, 0, none⟩), .string host, .agg #[.string ⟨#[72, 111, 115, 116]⟩, .string host], .pointer (some ⟨w.heap.size + 1, 1, none⟩), .int .i64 port, .bool true, .pointer (some ⟨w.heap.size + 1 + 1 + 1, 1, none⟩), .string host, .pointer (some ⟨w.heap.size + 1, 1, none⟩), .int .i64 port, .string I, .string (⟨#[58]⟩ ++ I), .string (host ++ (⟨#[58]⟩ ++ I)), .pointer (some ⟨w.heap.size + 1 + 1 + 1, 1, none⟩), .agg #[.string ⟨#[72, 111, 115, 116]⟩, .string (host ++ (⟨#[58]⟩ ++ I))], vs 1, .pointer (some ⟨w.heap.size, 3, none⟩), .slice A n c, vs 4, vs 5, vs 6, undef, undef, undef, undef, undef, undef, undef, undef, undef, undef, undef, undef, undef, undef, undef, undef, undef, undef], []⟩) (fun _ => rfl) (by kernel_rfl) (fun u u' hb h => ⟨h.1.below hb, Nat.le_trans h.2 hb.size⟩) (fun j v u u' hb h => by revert h; split <;> intro h <;> first | exact h.below hb | trivial) (List.forall_mem_cons.2 ⟨⟨_, rfl, ?_⟩, List.forall_mem_cons.2 ⟨⟨_, rfl, ?_⟩, List.forall_mem_cons.2 ⟨⟨_, rfl, ?_⟩, List.forall_mem_cons.2 ⟨⟨_, rfl, ?_⟩, fun _ h => by cases h⟩⟩⟩⟩) ?_
    · intro vs u hS hd K hK
      go_simp
      refine hK.out (.slice (some ⟨u.heap.size, 0, none⟩) 1 1) _ ⟨_, _, rfl, .inl ⟨rfl, .inr ⟨u.heap.size, 1, _, rfl, hS.2, heap_alloc_new u _, Nat.le_refl _, by decide, rfl, rfl⟩⟩⟩ ((Below.refl _ _).alloc (Nat.le_refl _) _)
    · intro vs u hS hd K hK
      go_simp
      refine (hSt.out u hS.1.2.2.2.2).mono ?_
      rintro e w7 ⟨A1, c1, rfl, hr, hb⟩
      exact hK.out (.slice A1 N c1) _ ⟨A1, c1, rfl, hr.mono hS.1.2.2.2.2.size⟩ hb
    · intro vs u hS hd K hK
      go_simp
      exact hK.out (.slice (some ⟨u.heap.size, 0, none⟩) 3 3) _ ⟨_, _, rfl, Rd.newRow _ _ _ 3 1 rfl⟩ ((Below.refl _ _).alloc (Nat.le_refl _) _)
    · intro vs u hS hd K hK
      obtain ⟨A1, c1, e1, hr1⟩ : SlRow w.heap.size 148 2 N (fcells T) (vs 4) u := hd 4 (by simp) (by kernel_rfl)
      obtain ⟨A2, c2, e2, hr2⟩ : SlRd 1 3 (scells F.three) (vs 5) u := hd 5 (by simp) (by kernel_rfl)
      have hc := hW.out A1 c1 A2 c2 u hr1.rd (fun h => hr1.nilB h) hr2
      rw [← e1, ← e2] at hc
      clear e1 e2 hd
      have HC := Lib.hid hc
      clear hc
      go_simp
      refine HC.out.mono ?_
      rintro e w7 ⟨A3, c3, rfl, hr, hb⟩
      exact hK.out (.slice A3 M c3) _ ⟨A3, c3, rfl, hr.mono hS.1.2.2.2.2.size⟩ hb
    intro vs u hS hR
    have hv25 := hR 1 (by simp)
    generalize vs 1 = v25 at *
    have hv28 := hR 4 (by simp)
    generalize vs 4 = v28 at *
    have hv29 := hR 5 (by simp)
    generalize vs 5 = v29 at *
    have hv30 := hR 6 (by simp)
    generalize vs 6 = v30 at *
    clear hR
    refine (?_ : HT _ _ _ _ _ _ _ ⟨#[.agg #[.string s, .string r, .int .i64 m, .slice A n c], .agg #[.string host, .int .i64 port, .string path], .string via, .pointer (some ⟨w.heap.size, 0, none⟩), .pointer (some ⟨w.heap.size + 1, 0, none⟩), undef, .pointer (some ⟨w.heap.size + 1 + 1, 0, none⟩), .pointer (some ⟨w.heap.size + 1 + 1 + 1, 0, none⟩), undef, undef, .pointer (some ⟨w.heap.size + 1, 0, none⟩), .string host, .agg #[.string ⟨#[72, 111, 115, 116]⟩, .string host], .pointer (some ⟨w.heap.size + 1, 1, none⟩), .int .i64 port, .bool true, .pointer (some ⟨w.heap.size + 1 + 1 + 1, 1, none⟩), .string host, .pointer (some ⟨w.heap.size + 1, 1, none⟩), .int .i64 port, .string I, .string (⟨#[58]⟩ ++ I), .string (host ++ (⟨#[58]⟩ ++ I)), .pointer (some ⟨w.heap.size + 1 + 1 + 1, 1, none⟩), .agg #[.string ⟨#[72, 111, 115, 116]⟩, .string (host ++ (⟨#[58]⟩ ++ I))], v25, .pointer (some ⟨w.heap.size, 3, none⟩), .slice A n c, v28, v29, v30, undef, undef, undef, undef, undef, undef, undef, undef, undef, undef, undef, undef, undef, undef, undef, undef, undef, undef], []⟩ _)
    obtain ⟨A1, c1, rfl, hr1⟩ := hv25
    obtain ⟨A2, c2, rfl, hr2⟩ := hv28
    obtain ⟨A3, c3, rfl, hr3⟩ := hv29
    obtain ⟨A4, c4, rfl, hr4⟩ := hv30
    clear hr2 hr3
    refine HT.tail _ rfl rfl (by kernel_rfl) (fun hS => ?_)
    have HS7 := Lib.hid hS
    clear hS
    refine appF _ rfl (.tmp 25) (.tmp 30) rfl w6.heap.size A1 1 c1 [(F.hostN, (host ++ (⟨#[58]⟩ ++ I)))] rfl hr1 A4 M c4 U rfl hr4.rd (by omega) HS7.out.2 ?_
    intro A5 c5 w8 hr5 ha5
    go_wp2
    refine NoPanic.normal ?_
    have hne : ∀ k, ownB A1 c1 = some k → w6.heap.size ≤ k := fun k hk => (hr1.lt k hk).1
    have HS8 : Hid (ReqS w #[.string s, .string r, .int .i64 m, .slice A n c] #[.string host, .int .i64 port, .string path] #[.string ⟨#[]⟩, .string ⟨#[]⟩, .int .i64 0, .slice none 0 0] #[.string ⟨#[72, 111, 115, 116]⟩, .string (host ++ (⟨#[58]⟩ ++ I))] w8) := Lib.hid ⟨HS7.out.1.1.app ha5 (fun k hk => by have := hne k hk; omega), HS7.out.1.2.1.app ha5 (fun k hk => by have := hne k hk; omega), HS7.out.1.2.2.1.app ha5 (fun k hk => by have := hne k hk; omega), HS7.out.1.2.2.2.1.app ha5 (fun k hk => by have := hne k hk; omega), HS7.out.1.2.2.2.2.trans ((ha5.below hr1 HS7.out.2).mono (by omega))⟩
    have hrd5 := hr5.rd
    clear hr1 hr4 ha5 hr5 hne HS6 HS7
    go_wp2
    have hz8 : w.heap.size + 4 ≤ w8.heap.size := by have := HS8.out.2.2.2.1.lt; omega
    have hS1 : (ReqS w #[.string s, .string r, .int .i64 m, .slice A n c] #[.string host, .int .i64 port, .string path] #[.string ⟨#[]⟩, .string ⟨#[]⟩, .int .i64 0, .slice none 0 0] #[.string ⟨#[72, 111, 115, 116]⟩, .string (host ++ (⟨#[58]⟩ ++ I))] w8.drew ∧ w8.heap.size ≤ w8.drew.heap.size ∧ Rd w8.drew A5 (1 + M) 2 (fcells ([(F.hostN, (host ++ (⟨#[58]⟩ ++ I)))] ++ U))) := ⟨HS8.out.below (Below.refl _ _).drew, Nat.le_refl _, hrd5⟩
    clear hrd5
    refine wp_region_noPanic ?_
    refine HT.begin (n := 13) (S := fun u => ReqS w #[.string s, .string r, .int .i64 m, .slice A n c] #[.string host, .int .i64 port, .string path] #[.string ⟨#[]⟩, .string ⟨#[]⟩, .int .i64 0, .slice none 0 0] #[.string ⟨#[72, 111, 115, 116]⟩, .string (host ++ (⟨#[58]⟩ ++ I))] u ∧ w8.heap.size ≤ u.heap.size ∧ Rd u A5 (1 + M) 2 (fcells ([(F.hostN, (host ++ (⟨#[58]⟩ ++ I)))] ++ U))) (by kernel_rfl) hS1 ?_
    refine HT.take 0 (.pointer (some ⟨w.heap.size, 0, none⟩)) rfl (by kernel_rfl) (fun _ _ _ h => h) (Or.inl ⟨by rfl, ?_⟩) (?_ : HT _ _ _ _ _ _ _ ⟨#[.agg #[.string s, .string r, .int .i64 m, .slice A n c], .agg #[.string host, .int .i64 port, .string path], .string via, .pointer (some ⟨w.heap.size, 0, none⟩), .pointer (some ⟨w.heap.size + 1, 0, none⟩), undef, .pointer (some ⟨w.heap.size + 1 + 1, 0, none⟩), .pointer (some ⟨w.heap.size + 1 + 1 + 1, 0, none⟩), .slice A5 (1 + M) c5, undef, .pointer (some ⟨w.heap.size + 1, 0, none⟩), .string host, .agg #[.string ⟨#[72, 111, 115, 116]⟩, .string host], .pointer (some ⟨w.heap.size + 1, 1, none⟩), .int .i64 port, .bool true, .pointer (some ⟨w.heap.size + 1 + 1 + 1, 1, none⟩), .string host, .pointer (some ⟨w.heap.size + 1, 1, none⟩), .int .i64 port, .string I, .string (⟨#[58]⟩ ++ I), .string (host ++ (⟨#[58]⟩ ++ I)), .pointer (some ⟨w.heap.size + 1 + 1 + 1, 1, none⟩), .agg #[.string ⟨#[72, 111, 115, 116]⟩, .string (host ++ (⟨#[58]⟩ ++ I))], .slice A1 1 c1, .pointer (some ⟨w.heap.size, 3, none⟩), .slice A n c, .slice A2 N c2, .slice A3 3 c3, .slice A4 M c4, .slice A5 (1 + M) c5, .pointer (some ⟨w.heap.size, 0, none⟩), undef, undef, undef, undef, undef, undef, undef, undef, undef, undef, undef, undef, undef, undef, undef, undef], []⟩ _)
    · intro u hu
      go_simp
    refine HT.take 1 (.string s) rfl (by kernel_rfl) (fun _ _ _ h => h) (Or.inl ⟨by rfl, ?_⟩) (?_ : HT _ _ _ _ _ _ _ ⟨#[.agg #[.string s, .string r, .int .i64 m, .slice A n c], .agg #[.string host, .int .i64 port, .string path], .string via, .pointer (some ⟨w.heap.size, 0, none⟩), .pointer (some ⟨w.heap.size + 1, 0, none⟩), undef, .pointer (some ⟨w.heap.size + 1 + 1, 0, none⟩), .pointer (some ⟨w.heap.size + 1 + 1 + 1, 0, none⟩), .slice A5 (1 + M) c5, undef, .pointer (some ⟨w.heap.size + 1, 0, none⟩), .string host, .agg #[.string ⟨#[72, 111, 115, 116]⟩, .string host], .pointer (some ⟨w.heap.size + 1, 1, none⟩), .int .i64 port, .bool true, .pointer (some ⟨w.heap.size + 1 + 1 + 1, 1, none⟩), .string host, .pointer (some ⟨w.heap.size + 1, 1, none⟩), .int .i64 port, .string I, .string (⟨#[58]⟩ ++ I), .string (host ++ (⟨#[58]⟩ ++ I)), .pointer (some ⟨w.heap.size + 1 + 1 + 1, 1, none⟩), .agg #[.string ⟨#[72, 111, 115, 116]⟩, .string (host ++ (⟨#[58]⟩ ++ I))], .slice A1 1 c1, .pointer (some ⟨w.heap.size, 3, none⟩), .slice A n c, .slice A2 N c2, .slice A3 3 c3, .slice A4 M c4, .slice A5 (1 + M) c5, .pointer (some ⟨w.heap.size, 0, none⟩), .string s, undef, undef, undef, undef, undef, undef, undef, undef, undef, undef, undef, undef, undef, undef, undef], []⟩ _)
    · intro u hu
      obtain ⟨⟨hx, ht, ho, hh, hb⟩, hz⟩ := hu
      have c0 := hx.cell 0 rfl
      go_simp
    refine HT.take 2 (.pointer (some ⟨w.heap.size + 1, 2, none⟩)) rfl (by kernel_rfl) (fun _ _ _ h => h) (Or.inl ⟨by rfl, ?_⟩) (?_ : HT _ _ _ _ _ _ _ ⟨#[.agg #[.string s, .string r, .int .i64 m, .slice A n c], .agg #[.string host, .int .i64 port, .string path], .string via, .pointer (some ⟨w.heap.size, 0, none⟩), .pointer (some ⟨w.heap.size + 1, 0, none⟩), undef, .pointer (some ⟨w.heap.size + 1 + 1, 0, none⟩), .pointer (some ⟨w.heap.size + 1 + 1 + 1, 0, none⟩), .slice A5 (1 + M) c5, undef, .pointer (some ⟨w.heap.size + 1, 0, none⟩), .string host, .agg #[.string ⟨#[72, 111, 115, 116]⟩, .string host], .pointer (some ⟨w.heap.size + 1, 1, none⟩), .int .i64 port, .bool true, .pointer (some ⟨w.heap.size + 1 + 1 + 1, 1, none⟩), .string host, .pointer (some ⟨w.heap.size + 1, 1, none⟩), .int .i64 port, .string I, .string (⟨#[58]⟩ ++ I), .string (host ++ (⟨#[58]⟩ ++ I)), .pointer (some ⟨w.heap.size + 1 + 1 + 1, 1, none⟩), .agg #[.string ⟨#[72, 111, 115, 116]⟩, .string (host ++ (⟨#[58]⟩ ++ I))], .slice A1 1 c1, .pointer (some ⟨w.heap.size, 3, none⟩), .slice A n c, .slice A2 N c2, .slice A3 3 c3, .slice A4 M c4, .slice A5 (1 + M) c5, .pointer (some ⟨w.heap.size, 0, none⟩), .string s, .pointer (some ⟨w.heap.size + 1, 2, none⟩), undef, undef, undef, undef, undef, undef, undef, undef, undef, undef, undef, undef, undef, undef], []⟩ _)
    · intro u hu
      go_simp
    refine HT.take 3 (.string path) rfl (by kernel_rfl) (fun _ _ _ h => h) (Or.inl ⟨by rfl, ?_⟩) (?_ : HT _ _ _ _ _ _ _ ⟨#[.agg #[.string s, .string r, .int .i64 m, .slice A n c], .agg #[.string host, .int .i64 port, .string path], .string via, .pointer (some ⟨w.heap.size, 0, none⟩), .pointer (some ⟨w.heap.size + 1, 0, none⟩), undef, .pointer (some ⟨w.heap.size + 1 + 1, 0, none⟩), .pointer (some ⟨w.heap.size + 1 + 1 + 1, 0, none⟩), .slice A5 (1 + M) c5, undef, .pointer (some ⟨w.heap.size + 1, 0, none⟩), .string host, .agg #[.string ⟨#[72, 111, 115, 116]⟩, .string host], .pointer (some ⟨w.heap.size + 1, 1, none⟩), .int .i64 port, .bool true, .pointer (some ⟨w.heap.size + 1 + 1 + 1, 1, none⟩), .string host, .pointer (some ⟨w.heap.size + 1, 1, none⟩), .int .i64 port, .string I, .string (⟨#[58]⟩ ++ I), .string (host ++ (⟨#[58]⟩ ++ I)), .pointer (some ⟨w.heap.size + 1 + 1 + 1, 1, none⟩), .agg #[.string ⟨#[72, 111, 115, 116]⟩, .string (host ++ (⟨#[58]⟩ ++ I))], .slice A1 1 c1, .pointer (some ⟨w.heap.size, 3, none⟩), .slice A n c, .slice A2 N c2, .slice A3 3 c3, .slice A4 M c4, .slice A5 (1 + M) c5, .pointer (some ⟨w.heap.size, 0, none⟩), .string s, .pointer (some ⟨w.heap.size + 1, 2, none⟩), .string path, undef, undef, undef, undef, undef, undef, undef, undef, undef, undef, undef, undef, undef], []⟩ _)
    · intro u hu
      obtain ⟨⟨hx, ht, ho, hh, hb⟩, hz⟩ := hu
      have c2 := ht.cell 2 rfl
      go_simp
    refine HT.take 4 (.slice A5 (1 + M) c5) rfl (by kernel_rfl) (fun _ _ _ h => h) (Or.inl ⟨by rfl, ?_⟩) (?_ : HT _ _ _ _ _ _ _ ⟨#[.agg #[.string s, .string r, .int .i64 m, .slice A n c], .agg #[.string host, .int .i64 port, .string path], .string via, .pointer (some ⟨w.heap.size, 0, none⟩), .pointer (some ⟨w.heap.size + 1, 0, none⟩), undef, .pointer (some ⟨w.heap.size + 1 + 1, 0, none⟩), .pointer (some ⟨w.heap.size + 1 + 1 + 1, 0, none⟩), .slice A5 (1 + M) c5, undef, .pointer (some ⟨w.heap.size + 1, 0, none⟩), .string host, .agg #[.string ⟨#[72, 111, 115, 116]⟩, .string host], .pointer (some ⟨w.heap.size + 1, 1, none⟩), .int .i64 port, .bool true, .pointer (some ⟨w.heap.size + 1 + 1 + 1, 1, none⟩), .string host, .pointer (some ⟨w.heap.size + 1, 1, none⟩), .int .i64 port, .string I, .string (⟨#[58]⟩ ++ I), .string (host ++ (⟨#[58]⟩ ++ I)), .pointer (some ⟨w.heap.size + 1 + 1 + 1, 1, none⟩), .agg #[.string ⟨#[72, 111, 115, 116]⟩, .string (host ++ (⟨#[58]⟩ ++ I))], .slice A1 1 c1, .pointer (some ⟨w.heap.size, 3, none⟩), .slice A n c, .slice A2 N c2, .slice A3 3 c3, .slice A4 M c4, .slice A5 (1 + M) c5, .pointer (some ⟨w.heap.size, 0, none⟩), .string s, .pointer (some ⟨w.heap.size + 1, 2, none⟩), .string path, .slice A5 (1 + M) c5, undef, undef, undef, undef, undef, undef, undef, undef, undef, undef, undef, undef], []⟩ _)
    · intro u hu
      go_simp
    refine HT.take 5 (.pointer (some ⟨w.heap.size, 3, none⟩)) rfl (by kernel_rfl) (fun _ _ _ h => h) (Or.inl ⟨by rfl, ?_⟩) (?_ : HT _ _ _ _ _ _ _ ⟨#[.agg #[.string s, .string r, .int .i64 m, .slice A n c], .agg #[.string host, .int .i64 port, .string path], .string via, .pointer (some ⟨w.heap.size, 0, none⟩), .pointer (some ⟨w.heap.size + 1, 0, none⟩), undef, .pointer (some ⟨w.heap.size + 1 + 1, 0, none⟩), .pointer (some ⟨w.heap.size + 1 + 1 + 1, 0, none⟩), .slice A5 (1 + M) c5, undef, .pointer (some ⟨w.heap.size + 1, 0, none⟩), .string host, .agg #[.string ⟨#[72, 111, 115, 116]⟩, .string host], .pointer (some ⟨w.heap.size + 1, 1, none⟩), .int .i64 port, .bool true, .pointer (some ⟨w.heap.size + 1 + 1 + 1, 1, none⟩), .string host, .pointer (some ⟨w.heap.size + 1, 1, none⟩), .int .i64 port, .string I, .string (⟨#[58]⟩ ++ I), .string (host ++ (⟨#[58]⟩ ++ I)), .pointer (some ⟨w.heap.size + 1 + 1 + 1, 1, none⟩), .agg #[.string ⟨#[72, 111, 115, 116]⟩, .string (host ++ (⟨#[58]⟩ ++ I))], .slice A1 1 c1, .pointer (some ⟨w.heap.size, 3, none⟩), .slice A n c, .slice A2 N c2, .slice A3 3 c3, .slice A4 M c4, .slice A5 (1 + M) c5, .pointer (some ⟨w.heap.size, 0, none⟩), .string s, .pointer (some ⟨w.heap.size + 1, 2, none⟩), .string path, .slice A5 (1 + M) c5, .pointer (some ⟨w.heap.size, 3, none⟩), undef, undef, undef, undef, undef, undef, undef, undef, undef, undef, undef], []⟩ _)
    · intro u hu
      go_simp
    refine HT.take 6 (.slice A n c) rfl (by kernel_rfl) (fun _ _ _ h => h) (Or.inl ⟨by rfl, ?_⟩) (?_ : HT _ _ _ _ _ _ _ ⟨#[.agg #[.string s, .string r, .int .i64 m, .slice A n c], .agg #[.string host, .int .i64 port, .string path], .string via, .pointer (some ⟨w.heap.size, 0, none⟩), .pointer (some ⟨w.heap.size + 1, 0, none⟩), undef, .pointer (some ⟨w.heap.size + 1 + 1, 0, none⟩), .pointer (some ⟨w.heap.size + 1 + 1 + 1, 0, none⟩), .slice A5 (1 + M) c5, undef, .pointer (some ⟨w.heap.size + 1, 0, none⟩), .string host, .agg #[.string ⟨#[72, 111, 115, 116]⟩, .string host], .pointer (some ⟨w.heap.size + 1, 1, none⟩), .int .i64 port, .bool true, .pointer (some ⟨w.heap.size + 1 + 1 + 1, 1, none⟩), .string host, .pointer (some ⟨w.heap.size + 1, 1, none⟩), .int .i64 port, .string I, .string (⟨#[58]⟩ ++ I), .string (host ++ (⟨#[58]⟩ ++ I)), .pointer (some ⟨w.heap.size + 1 + 1 + 1, 1, none⟩), .agg #[.string ⟨#[72, 111, 115, 116]⟩, .string (host ++ (⟨#[58]⟩ ++ I))], .slice A1 1 c1, .pointer (some ⟨w.heap.size, 3, none⟩), .slice A n c, .slice A2 N c2, .slice A3 3 c3, .slice A4 M c4, .slice A5 (1 + M) c5, .pointer (some ⟨w.heap.size, 0, none⟩), .string s, .pointer (some ⟨w.heap.size + 1, 2, none⟩), .string path, .slice A5 (1 + M) c5, .pointer (some ⟨w.heap.size, 3, none⟩), .slice A n c, undef, undef, undef, undef, undef, undef, undef, undef, undef, undef], []⟩ _)
    · intro u hu
      obtain ⟨⟨hx, ht, ho, hh, hb⟩, hz⟩ := hu
      have c3 := hx.cell 3 rfl
      go_simp
    refine HT.take 7 (.pointer (some ⟨w.heap.size, 2, none⟩)) rfl (by kernel_rfl) (fun _ _ _ h => h) (Or.inl ⟨by rfl, ?_⟩) (?_ : HT _ _ _ _ _ _ _ ⟨#[.agg #[.string s, .string r, .int .i64 m, .slice A n c], .agg #[.string host, .int .i64 port, .string path], .string via, .pointer (some ⟨w.heap.size, 0, none⟩), .pointer (some ⟨w.heap.size + 1, 0, none⟩), undef, .pointer (some ⟨w.heap.size + 1 + 1, 0, none⟩), .pointer (some ⟨w.heap.size + 1 + 1 + 1, 0, none⟩), .slice A5 (1 + M) c5, undef, .pointer (some ⟨w.heap.size + 1, 0, none⟩), .string host, .agg #[.string ⟨#[72, 111, 115, 116]⟩, .string host], .pointer (some ⟨w.heap.size + 1, 1, none⟩), .int .i64 port, .bool true, .pointer (some ⟨w.heap.size + 1 + 1 + 1, 1, none⟩), .string host, .pointer (some ⟨w.heap.size + 1, 1, none⟩), .int .i64 port, .string I, .string (⟨#[58]⟩ ++ I), .string (host ++ (⟨#[58]⟩ ++ I)), .pointer (some ⟨w.heap.size + 1 + 1 + 1, 1, none⟩), .agg #[.string ⟨#[72, 111, 115, 116]⟩, .string (host ++ (⟨#[58]⟩ ++ I))], .slice A1 1 c1, .pointer (some ⟨w.heap.size, 3, none⟩), .slice A n c, .slice A2 N c2, .slice A3 3 c3, .slice A4 M c4, .slice A5 (1 + M) c5, .pointer (some ⟨w.heap.size, 0, none⟩), .string s, .pointer (some ⟨w.heap.size + 1, 2, none⟩), .string path, .slice A5 (1 + M) c5, .pointer (some ⟨w.heap.size, 3, none⟩), .slice A n c, .pointer (some ⟨w.heap.size, 2, none⟩), undef, undef, undef, undef, undef, undef, undef, undef, undef], []⟩ _)
    · intro u hu
      go_simp
    refine HT.take 8 (.int .i64 m) rfl (by kernel_rfl) (fun _ _ _ h => h) (Or.inl ⟨by rfl, ?_⟩) (?_ : HT _ _ _ _ _ _ _ ⟨#[.agg #[.string s, .string r, .int .i64 m, .slice A n c], .agg #[.string host, .int .i64 port, .string path], .string via, .pointer (some ⟨w.heap.size, 0, none⟩), .pointer (some ⟨w.heap.size + 1, 0, none⟩), undef, .pointer (some ⟨w.heap.size + 1 + 1, 0, none⟩), .pointer (some ⟨w.heap.size + 1 + 1 + 1, 0, none⟩), .slice A5 (1 + M) c5, undef, .pointer (some ⟨w.heap.size + 1, 0, none⟩), .string host, .agg #[.string ⟨#[72, 111, 115, 116]⟩, .string host], .pointer (some ⟨w.heap.size + 1, 1, none⟩), .int .i64 port, .bool true, .pointer (some ⟨w.heap.size + 1 + 1 + 1, 1, none⟩), .string host, .pointer (some ⟨w.heap.size + 1, 1, none⟩), .int .i64 port, .string I, .string (⟨#[58]⟩ ++ I), .string (host ++ (⟨#[58]⟩ ++ I)), .pointer (some ⟨w.heap.size + 1 + 1 + 1, 1, none⟩), .agg #[.string ⟨#[72, 111, 115, 116]⟩, .string (host ++ (⟨#[58]⟩ ++ I))], .slice A1 1 c1, .pointer (some ⟨w.heap.size, 3, none⟩), .slice A n c, .slice A2 N c2, .slice A3 3 c3, .slice A4 M c4, .slice A5 (1 + M) c5, .pointer (some ⟨w.heap.size, 0, none⟩), .string s, .pointer (some ⟨w.heap.size + 1, 2, none⟩), .string path, .slice A5 (1 + M) c5, .pointer (some ⟨w.heap.size, 3, none⟩), .slice A n c, .pointer (some ⟨w.heap.size, 2, none⟩), .int .i64 m, undef, undef, undef, undef, undef, undef, undef, undef], []⟩ _)
    · intro u hu
      obtain ⟨⟨hx, ht, ho, hh, hb⟩, hz⟩ := hu
      have c2 := hx.cell 2 rfl
      go_simp
    refine HT.take 9 (.string via) rfl (by kernel_rfl) (fun _ _ _ h => h) (Or.inl ⟨by rfl, ?_⟩) (?_ : HT _ _ _ _ _ _ _ ⟨#[.agg #[.string s, .string r, .int .i64 m, .slice A n c], .agg #[.string host, .int .i64 port, .string path], .string via, .pointer (some ⟨w.heap.size, 0, none⟩), .pointer (some ⟨w.heap.size + 1, 0, none⟩), undef, .pointer (some ⟨w.heap.size + 1 + 1, 0, none⟩), .pointer (some ⟨w.heap.size + 1 + 1 + 1, 0, none⟩), .slice A5 (1 + M) c5, undef, .pointer (some ⟨w.heap.size + 1, 0, none⟩), .string host, .agg #[.string ⟨#[72, 111, 115, 116]⟩, .string host], .pointer (some ⟨w.heap.size + 1, 1, none⟩), .int .i64 port, .bool true, .pointer (some ⟨w.heap.size + 1 + 1 + 1, 1, none⟩), .string host, .pointer (some ⟨w.heap.size + 1, 1, none⟩), .int .i64 port, .string I, .string (⟨#[58]⟩ ++ I), .string (host ++ (⟨#[58]⟩ ++ I)), .pointer (some ⟨w.heap.size + 1 + 1 + 1, 1, none⟩), .agg #[.string ⟨#[72, 111, 115, 116]⟩, .string (host ++ (⟨#[58]⟩ ++ I))], .slice A1 1 c1, .pointer (some ⟨w.heap.size, 3, none⟩), .slice A n c, .slice A2 N c2, .slice A3 3 c3, .slice A4 M c4, .slice A5 (1 + M) c5, .pointer (some ⟨w.heap.size, 0, none⟩), .string s, .pointer (some ⟨w.heap.size + 1, 2, none⟩), .string path, .slice A5 (1 + M) c5, .pointer (some ⟨w.heap.size, 3, none⟩), .slice A n c, .pointer (some ⟨w.heap.size, 2, none⟩), .int .i64 m, .string via, undef, undef, undef, undef, undef, undef, undef], []⟩ _)
    · intro u hu
      go_simp
    refine HT.block (f0 := 1) [10, 11, 12] (fun j v u => match j with | 10 => SlRow w.heap.size 148 2 P.length (fcells P) v u | 11 => ∃ A6 c6, v = .agg #[.string s, .string path, .int .i64 1, .slice A6 P.length c6] ∧ Row u w.heap.size 148 2 A6 P.length c6 (fcells P) | 12 => PtrBlk w8.heap.size #[.string ⟨#[]⟩, .string ⟨#[]⟩, .int .i64 0, .slice none 0 0] 25 v u | _ => True) (fun vs => ⟨#[.agg #[.string s, .string r, .int .i64 m, .slice A n c], .agg #[.string host, .int .i64 port, .string path], .string via, .pointer (some ⟨w.heap.size, 0, none⟩), .pointer (some ⟨w.heap.size + 1, 0, none⟩), undef, .pointer (some ⟨w.heap.size + 1 + 1, 0, none⟩), .pointer (some ⟨w.heap.size + 1 + 1 + 1, 0, none⟩), .slice A5 (1 + M) c5, vs 12, .pointer (some ⟨w.heap.size + 1, 0, none⟩), .string host, .agg #[.string ⟨#[72, 111, 115, 116]⟩, .string host], .pointer (some ⟨w.heap.size + 1, 1, none⟩), .int .i64 port, .bool true, .pointer (some ⟨w.heap.size + 1 + 1 + 1, 1, none⟩), .string host, .pointer (some ⟨w.heap.size + 1, 1, none⟩), .int .i64 port, .string I, .string (⟨#[58]⟩ ++ I), .string (host ++ (⟨#[58]⟩ ++ I)), .pointer (some ⟨w.heap.size + 1 + 1 + 1, 1, none⟩), .agg #[.string ⟨#[72, 111, 115, 116]⟩, .string (host ++ (⟨#[58]⟩ ++ I))], .slice A1 1 c1, .pointer (some ⟨w.heap.size, 3, none⟩), .slice A n c, .slice A2 N c2, .slice A3 3 c3, .slice A4 M c4, .slice A5 (1 + M) c5, .pointer (some ⟨w.heap.size, 0, none⟩), .string s, .pointer (some ⟨w.heap.size + 1, 2, none⟩), .string path, .slice A5 (1 + M) c5, .pointer (some ⟨w.heap.size, 3, none⟩), .slice A n c, .pointer (some ⟨w.heap.size, 2, none⟩), .int .i64 m, .string via, vs 10, vs 11, undef, undef, undef, undef, undef], []⟩) (fun _ => rfl) (by kernel_rfl) (fun u u' hb h => ⟨h.1.below hb, Nat.le_trans h.2.1 hb.size, h.2.2.below hb⟩) (fun j v u u' hb h => by revert h; split <;> intro h <;> first | exact h.below hb | (obtain ⟨A6, c6, hv, hr⟩ := h; exact ⟨A6, c6, hv, hr.below hb⟩) | trivial) (List.forall_mem_cons.2 ⟨⟨_, rfl, ?_⟩, List.forall_mem_cons.2 ⟨⟨_, rfl, ?_⟩, List.forall_mem_cons.2 ⟨⟨_, rfl, ?_⟩, fun _ h => by cases h⟩⟩⟩) ?_
    · intro vs u hS hd K hK
      go_simp
      refine (hV'.out A5 c5 u hS.1.2.2.2.2 hS.2.2).mono ?_
      rintro e w9 ⟨A6, c6, rfl, hr, hb⟩
      exact hK.out (.slice A6 P.length c6) _ ⟨A6, c6, rfl, hr.mono hS.1.2.2.2.2.size⟩ hb
    · intro vs u hS hd K hK
      obtain ⟨A6, c6, e1, hr6⟩ : SlRow w.heap.size 148 2 P.length (fcells P) (vs 10) u := hd 10 (by simp) (by kernel_rfl)
      have hk : K (⟨#[.agg #[.string s, .string r, .int .i64 m, .slice A n c], .agg #[.string host, .int .i64 port, .string path], .string via, .pointer (some ⟨w.heap.size, 0, none⟩), .pointer (some ⟨w.heap.size + 1, 0, none⟩), undef, .pointer (some ⟨w.heap.size + 1 + 1, 0, none⟩), .pointer (some ⟨w.heap.size + 1 + 1 + 1, 0, none⟩), .slice A5 (1 + M) c5, vs 12, .pointer (some ⟨w.heap.size + 1, 0, none⟩), .string host, .agg #[.string ⟨#[72, 111, 115, 116]⟩, .string host], .pointer (some ⟨w.heap.size + 1, 1, none⟩), .int .i64 port, .bool true, .pointer (some ⟨w.heap.size + 1 + 1 + 1, 1, none⟩), .string host, .pointer (some ⟨w.heap.size + 1, 1, none⟩), .int .i64 port, .string I, .string (⟨#[58]⟩ ++ I), .string (host ++ (⟨#[58]⟩ ++ I)), .pointer (some ⟨w.heap.size + 1 + 1 + 1, 1, none⟩), .agg #[.string ⟨#[72, 111, 115, 116]⟩, .string (host ++ (⟨#[58]⟩ ++ I))], .slice A1 1 c1, .pointer (some ⟨w.heap.size, 3, none⟩), .slice A n c, .slice A2 N c2, .slice A3 3 c3, .slice A4 M c4, .slice A5 (1 + M) c5, .pointer (some ⟨w.heap.size, 0, none⟩), .string s, .pointer (some ⟨w.heap.size + 1, 2, none⟩), .string path, .slice A5 (1 + M) c5, .pointer (some ⟨w.heap.size, 3, none⟩), .slice A n c, .pointer (some ⟨w.heap.size, 2, none⟩), .int .i64 m, .string via, vs 10, .agg #[.string s, .string path, .int .i64 1, .slice A6 P.length c6], undef, undef, undef, undef, undef], []⟩) u := hK.out (.agg #[.string s, .string path, .int .i64 1, .slice A6 P.length c6]) _ ⟨A6, c6, rfl, hr6⟩ (Below.refl _ _)
      rw [e1] at hk
      have HK := Lib.hid hk
      clear hk hK hd
      go_simp
      exact HK.out
    · intro vs u hS hd K hK
      go_simp
      exact hK.out (.pointer (some ⟨u.heap.size, 0, none⟩)) _ ⟨_, rfl, hS.2.1, Blk.new u _ _⟩ ((Below.refl _ _).alloc (Nat.le_refl _) _)
    intro vs u hS hR
    have hv42 := hR 10 (by simp)
    generalize vs 10 = v42 at *
    have hv43 := hR 11 (by simp)
    generalize vs 11 = v43 at *
    have hv9 := hR 12 (by simp)
    generalize vs 12 = v9 at *
    clear hR
    refine (?_ : HT _ _ _ _ _ _ _ ⟨#[.agg #[.string s, .string r, .int .i64 m, .slice A n c], .agg #[.string host, .int .i64 port, .string path], .string via, .pointer (some ⟨w.heap.size, 0, none⟩), .pointer (some ⟨w.heap.size + 1, 0, none⟩), undef, .pointer (some ⟨w.heap.size + 1 + 1, 0, none⟩), .pointer (some ⟨w.heap.size + 1 + 1 + 1, 0, none⟩), .slice A5 (1 + M) c5, v9, .pointer (some ⟨w.heap.size + 1, 0, none⟩), .string host, .agg #[.string ⟨#[72, 111, 115, 116]⟩, .string host], .pointer (some ⟨w.heap.size + 1, 1, none⟩), .int .i64 port, .bool true, .pointer (some ⟨w.heap.size + 1 + 1 + 1, 1, none⟩), .string host, .pointer (some ⟨w.heap.size + 1, 1, none⟩), .int .i64 port, .string I, .string (⟨#[58]⟩ ++ I), .string (host ++ (⟨#[58]⟩ ++ I)), .pointer (some ⟨w.heap.size + 1 + 1 + 1, 1, none⟩), .agg #[.string ⟨#[72, 111, 115, 116]⟩, .string (host ++ (⟨#[58]⟩ ++ I))], .slice A1 1 c1, .pointer (some ⟨w.heap.size, 3, none⟩), .slice A n c, .slice A2 N c2, .slice A3 3 c3, .slice A4 M c4, .slice A5 (1 + M) c5, .pointer (some ⟨w.heap.size, 0, none⟩), .string s, .pointer (some ⟨w.heap.size + 1, 2, none⟩), .string path, .slice A5 (1 + M) c5, .pointer (some ⟨w.heap.size, 3, none⟩), .slice A n c, .pointer (some ⟨w.heap.size, 2, none⟩), .int .i64 m, .string via, v42, v43, undef, undef, undef, undef, undef], []⟩ _)
    obtain ⟨A7, c7, rfl, _⟩ := hv42
    obtain ⟨A6, c6, rfl, hr6⟩ := hv43
    obtain ⟨b9, rfl, hb9, hk9⟩ := hv9
    refine HT.tail _ rfl rfl (by kernel_rfl) (fun hS => ?_)
    have HS9 := Lib.hid hS.1
    obtain ⟨c0, c1, c2, c3⟩ := hk9.cells4
    obtain ⟨f0, f1, f2, f3⟩ := hk9.free4
    have HK := Lib.hid (hk9.set4 (.string s) (.string path) (.int .i64 1) (.slice A6 P.length c6))
    have HR := Lib.hid (hr6.farT4 hk9 (by decide) (.string s) (.string path) (.int .i64 1) (.slice A6 P.length c6))
    have HO := Lib.hid (HS9.out.2.2.1.far4 (b' := b9) (by omega) (.string s) (.string path) (.int .i64 1) (.slice A6 P.length c6))
    have HB := Lib.hid (below_four HS9.out.2.2.2.2 (b := b9) (by omega) (.string s) (.string path) (.int .i64 1) (.slice A6 P.length c6))
    clear hS hk9 hr6 HS8 HS9
    go_wp2
    refine NoPanic.normal ?_
    clear c0 c1 c2 c3 f0 f1 f2 f3
    generalize ((((u.setCell ⟨b9, 0, none⟩ (.string s)).setCell ⟨b9, 1, none⟩ (.string path)).setCell ⟨b9, 2, none⟩ (.int .i64 1)).setCell ⟨b9, 3, none⟩ (.slice A6 P.length c6)) = w9 at *
    by_cases hpe : path = ⟨#[]⟩
    · subst hpe
      obtain ⟨c0, c1, c2, c3⟩ := HK.out.cells4
      obtain ⟨f0, f1, f2, f3⟩ := HK.out.free4
      have HK2 := Lib.hid (HK.out.set 1 (.string ⟨#[47]⟩))
      have HO2 := Lib.hid (HO.out.far (b' := b9) 1 (.string ⟨#[47]⟩) (by omega))
      have HR2 := Lib.hid (HR.out.farT HK.out (by decide) 1 (.string ⟨#[47]⟩))
      have HB2 := Lib.hid (below_set HB.out (b := b9) (by omega) 1 (.string ⟨#[47]⟩))
      have d0 := HK2.out.cell 0 (v := .string s) rfl
      have d1 := HK2.out.cell 1 (v := .string ⟨#[47]⟩) rfl
      have d2 := HK2.out.cell 2 (v := .int .i64 1) rfl
      have d3 := HK2.out.cell 3 (v := .slice A6 P.length c6) rfl
      obtain ⟨o0, o1, o2, o3⟩ := HO2.out.cells4
      obtain ⟨g0, g1, g2, g3⟩ := HO2.out.free4
      clear HK HO HR HB HK2
      go_wp2
      have hk := HO2.out.set4 (.string s) (.string ⟨#[47]⟩) (.int .i64 1) (.slice A6 P.length c6)
      have hr := HR2.out.farT4 HO2.out (by decide) (.string s) (.string ⟨#[47]⟩) (.int .i64 1) (.slice A6 P.length c6)
      have hb := below_four HB2.out (b := w.heap.size + 1 + 1) (by omega) (.string s) (.string ⟨#[47]⟩) (.int .i64 1) (.slice A6 P.length c6)
      clear d0 d1 d2 d3 o0 o1 o2 o3 g0 g1 g2 g3 c0 c1 c2 c3 f0 f1 f2 f3 HO2 HR2 HB2
      generalize (((((w9.setCell ⟨b9, 1, none⟩ (.string ⟨#[47]⟩)).setCell ⟨w.heap.size + 1 + 1, 0, none⟩ (.string s)).setCell ⟨w.heap.size + 1 + 1, 1, none⟩ (.string ⟨#[47]⟩)).setCell ⟨w.heap.size + 1 + 1, 2, none⟩ (.int .i64 1)).setCell ⟨w.heap.size + 1 + 1, 3, none⟩ (.slice A6 P.length c6)) = W at *
      obtain ⟨d0, d1, d2, d3⟩ := hk.cells4
      refine bodyPost_ret (v := .agg #[.string s, .string ⟨#[47]⟩, .int .i64 1, .slice A6 P.length c6]) (by simp [results, Tryz.results39, go_sem, d0, d1, d2, d3]) rfl ?_
      exact ⟨A6, c6, rfl, hr, hb⟩
    · have he1 : ¬ path.toList = [] := fun h => hpe (toList_inj.1 (h.trans (by simp)))
      have he2 : path.toList.isEmpty = false := by cases h : path.toList <;> simp_all
      have HP : Hid (F.pathOf path = path) := if_neg hpe
      obtain ⟨d0, d1, d2, d3⟩ := HK.out.cells4
      obtain ⟨o0, o1, o2, o3⟩ := HO.out.cells4
      obtain ⟨g0, g1, g2, g3⟩ := HO.out.free4
      clear HK hpe
      go_wp2
      have hk := HO.out.set4 (.string s) (.string path) (.int .i64 1) (.slice A6 P.length c6)
      have hr := HR.out.farT4 HO.out (by decide) (.string s) (.string path) (.int .i64 1) (.slice A6 P.length c6)
      have hb := below_four HB.out (b := w.heap.size + 1 + 1) (by omega) (.string s) (.string path) (.int .i64 1) (.slice A6 P.length c6)
      clear d0 d1 d2 d3 o0 o1 o2 o3 g0 g1 g2 g3 HO HR HB he1 he2
      generalize ((((w9.setCell ⟨w.heap.size + 1 + 1, 0, none⟩ (.string s)).setCell ⟨w.heap.size + 1 + 1, 1, none⟩ (.string path)).setCell ⟨w.heap.size + 1 + 1, 2, none⟩ (.int .i64 1)).setCell ⟨w.heap.size + 1 + 1, 3, none⟩ (.slice A6 P.length c6)) = W at *
      obtain ⟨d0, d1, d2, d3⟩ := hk.cells4
      refine bodyPost_ret (v := .agg #[.string s, .string path, .int .i64 1, .slice A6 P.length c6]) (by simp [results, Tryz.results39, go_sem, d0, d1, d2, d3]) rfl ?_
      exact ⟨A6, c6, by rw [HP.out], hr, hb⟩
end Go.Proofs.YteehjkfmlcfffaaGreatDoor

namespace Go.Proofs.YteehjkfmlcfffaaGreatDoor
open Go.RowKit

/-- The four blocks of the walk. -/
def ReqR (w : World) (X T O H : Array Value) (u : World) : Prop := Blk u w.heap.size X 25 ∧ Blk u (w.heap.size + 1) T 66 ∧ Blk u (w.heap.size + 1 + 1) O 25 ∧ Blk u (w.heap.size + 1 + 1 + 1) H 25 ∧ Below w.heap.size w u
theorem ReqR.below {w u v : World} {X T O H : Array Value} (h : ReqR w X T O H u) (hb : Below u.heap.size u v) : ReqR w X T O H v :=
  ⟨h.1.below hb, h.2.1.below hb, h.2.2.1.below hb, h.2.2.2.1.below hb, below_then h.2.2.2.2.size h.2.2.2.2 hb⟩
theorem ReqR.start (w : World) (X T O H : Array Value) : ReqR w X T O H ((((w.alloc (.cells X 25)).alloc (.cells T 66)).alloc (.cells O 25)).alloc (.cells H 25)) := by
  refine ⟨(((Blk.new w X _).alloc _).alloc _).alloc _, ?_, ?_, ?_, ?_⟩
  · have := ((Blk.new (w.alloc (.cells X 25)) T 66).alloc (.cells O 25)).alloc (.cells H 25)
    rwa [World.size_alloc] at this
  · have := (Blk.new ((w.alloc (.cells X 25)).alloc (.cells T 66)) O 25).alloc (.cells H 25)
    rwa [World.size_alloc, World.size_alloc] at this
  · have := Blk.new (((w.alloc (.cells X 25)).alloc (.cells T 66)).alloc (.cells O 25)) H 25
    rwa [World.size_alloc, World.size_alloc, World.size_alloc] at this
  · exact ((((Below.refl _ _).alloc (Nat.le_refl _) _).alloc (by simp only [World.size_alloc]; omega) _).alloc (by simp only [World.size_alloc]; omega) _).alloc (by simp only [World.size_alloc]; omega) _
theorem ReqR.app {w u v : World} {X T O H : Array Value} {A A' : Option Addr} {c c' base size n : Nat} {e : TypeId} {xs : List Value} (h : ReqR w X T O H u) (ha : App u v A c A' c') (hr : Row u base e size A n c xs) (hb : w.heap.size + 4 ≤ base) (hbu : base ≤ u.heap.size) : ReqR w X T O H v :=
  ⟨h.1.app ha (fun k hk => by have := (hr.lt k hk).1; omega), h.2.1.app ha (fun k hk => by have := (hr.lt k hk).1; omega), h.2.2.1.app ha (fun k hk => by have := (hr.lt k hk).1; omega), h.2.2.2.1.app ha (fun k hk => by have := (hr.lt k hk).1; omega), h.2.2.2.2.trans ((ha.below hr hbu).mono (by omega))⟩
end Go.Proofs.YteehjkfmlcfffaaGreatDoor

namespace Go.Proofs.YteehjkfmlcfffaaGreatDoor
open Go.RowKit

set_option maxHeartbeats 400000 in
theorem copyRequest_any (m : Int) (s r : ByteArray) (A : Option Addr) (n c : Nat) (fs : List FD) (w : World) (hl : fs.length = n) (hn : n ≤ 1099511627776) (hx : Rd w A n 2 (fcells fs)) :
    Calls Tryz.prog 40 #[.agg #[.string s, .string r, .int .i64 m, .slice A n c]] w (RetQ w s r m fs) := by
  have HC := Lib.hid (fun (w1 : World) (hb : Below w.heap.size w w1) => copyFields_any A n c fs w1 hn (hx.below hb))
  subst hl
  clear hx hn
  go_enter Tryz.func40, Tryz.ntmps40
  go_wp2_with fail
  refine (HC.out _ (((Below.refl _ _).alloc (Nat.le_refl _) _).alloc (by rw [World.size_alloc]; omega) _)).mono ?_
  rintro e w1 ⟨A1, c1, rfl, hr1, hb1⟩
  obtain ⟨x0, x1, x2, x3⟩ := ((newFour (w := w) (.string s) (.string r) (.int .i64 m) (.slice A fs.length c) 25).below ((Below.refl _ _).alloc (Nat.le_refl _) _)).below hb1
  have y4 := (newFour (w := w.alloc (.cells #[.string s, .string r, .int .i64 m, .slice A fs.length c] 25)) (.string ⟨#[]⟩) (.string ⟨#[]⟩) (.int .i64 0) (.slice none 0 0) 25).below hb1
  have g4 : ∀ i, w1.frozen? ⟨w.heap.size + 1, i, none⟩ = false := fun i => by
    have := newFree hb1 i
    rwa [World.size_alloc] at this
  have k4 : w1.frozen? ⟨w.heap.size, 3, none⟩ = false := by
    rw [hb1.frozen (p := ⟨w.heap.size, 3, none⟩) (by simp only [World.size_alloc]; omega)]
    rw [frozen?_alloc_cells]
    exact newFour_free _ _ _
  rw [World.size_alloc] at y4
  obtain ⟨y0, y1, y2, y3⟩ := y4
  have g0 := g4 0
  have g1 := g4 1
  have g2 := g4 2
  have g3 := g4 3
  have HG4 := Lib.hid g4
  have HY4 := Lib.hid (show Four w1 (w.heap.size + 1) from ⟨⟨at_of y0, g0⟩, ⟨at_of y1, g1⟩, ⟨at_of y2, g2⟩, ⟨at_of y3, g3⟩⟩)
  have hB := below_then (b := (w.alloc (.cells #[.string s, .string r, .int .i64 m, .slice A fs.length c] 25)).alloc (.cells #[.string ⟨#[]⟩, .string ⟨#[]⟩, .int .i64 0, .slice none 0 0] 25)) (by simp only [World.size_alloc]; omega) (((Below.refl _ _).alloc (Nat.le_refl _) _).alloc (by rw [World.size_alloc]; omega) _) hb1
  have HB := Lib.hid hB
  have HR := Lib.hid hr1
  clear hB hb1 hr1 g4 HC
  go_wp2
  have hfour := (HY4.out.far (b := w.heap.size) (by omega) 3 (.slice A1 fs.length c1)).set4 (.string s) (.string r) (.int .i64 m) (.slice A1 fs.length c1)
  have hrow := (HR.out.far (b := w.heap.size) (i := 3) (by simp only [World.size_alloc]; omega) (.slice A1 fs.length c1)).set4 (b := w.heap.size + 1) (by simp only [World.size_alloc]; omega) (.string s) (.string r) (.int .i64 m) (.slice A1 fs.length c1)
  have hbel := below_set4 (HB.out.setCell (p := ⟨w.heap.size, 3, none⟩) (Nat.le_refl _) (.slice A1 fs.length c1)) (b := w.heap.size + 1) (by omega) (.string s) (.string r) (.int .i64 m) (.slice A1 fs.length c1)
  clear x0 x1 x2 x3 y0 y1 y2 y3 g0 g1 g2 g3 k4 HY4 HR HB
  generalize (((((w1.setCell ⟨w.heap.size, 3, none⟩ (.slice A1 fs.length c1)).setCell ⟨w.heap.size + 1, 0, none⟩ (.string s)).setCell ⟨w.heap.size + 1, 1, none⟩ (.string r)).setCell ⟨w.heap.size + 1, 2, none⟩ (.int .i64 m)).setCell ⟨w.heap.size + 1, 3, none⟩ (.slice A1 fs.length c1)) = U at *
  obtain ⟨d0, d1, d2, d3⟩ := hfour
  refine bodyPost_ret (v := .agg #[.string s, .string r, .int .i64 m, .slice A1 fs.length c1]) (by simp [results, Tryz.results40, go_sem, d0, d1, d2, d3]) rfl ?_
  exact ⟨A1, c1, rfl, hrow.mono (by simp only [World.size_alloc]; omega), hbel⟩


end Go.Proofs.YteehjkfmlcfffaaGreatDoor

namespace Go.Proofs.YteehjkfmlcfffaaGreatDoor
open Go.RowKit

theorem three_small : NSmall F.three := by unfold NSmall F.three; decide
theorem hostOf_size (host : ByteArray) (port : Int) (h0 : -9223372036854775808 ≤ port) (h1 : port ≤ 9223372036854775807) : (F.hostOf host port).size ≤ host.size + 22 := by
  have h3 : (B (Lib.itoa port)).size ≤ 21 := by rw [B_size]; exact Lib.itoa_length_le port h0 h1
  have e : (⟨#[58]⟩ : ByteArray).size = 1 := rfl
  unfold F.hostOf
  split
  · omega
  · rw [ByteArray.size_append, ByteArray.size_append]; omega
theorem Rd.some {w : World} {A : Option Addr} {n size : Nat} {xs : List Value} (h : Rd w A n size xs) (hn : 0 < n) (hA : A = none) : False := by
  obtain ⟨b, o, e, _⟩ := h.2 hn
  rw [hA] at e
  cases e

theorem hopRequest_any (s r via host path : ByteArray) (m port : Int) (A : Option Addr) (n c : Nat) (fs : List FD) (w : World) (hl : fs.length = n) (hf : F.bulk fs ≤ 1048576) (hx : Rd w A n 2 (fcells fs)) (hnil : A = none → n = 0 ∧ c = 0)
    (h0 : -9223372036854775808 ≤ m) (h1 : m ≤ 9223372036854775807) (p0 : -9223372036854775808 ≤ port) (p1 : port ≤ 9223372036854775807) (hv : via.size ≤ 1048576) (hh : host.size ≤ 1048576) (ht : TabOk w) :
    Calls Tryz.prog 39 #[.agg #[.string s, .string r, .int .i64 m, .slice A n c], .agg #[.string host, .int .i64 port, .string path], .string via] w (RetQ w s (F.pathOf path) 1 (F.sent fs m via host port)) := by
  have zH := hostOf_size host port p0 p1
  have zI : (B (Lib.itoa port)).size ≤ 21 := by rw [B_size]; exact Lib.itoa_length_le port p0 p1
  have hs1 := F.bulk_strip fs
  have hs2 := F.bulk_without (F.strip fs) F.three
  have hs3 := F.len_le_bulk (F.strip fs)
  have hs4 := F.len_le_bulk (F.without (F.strip fs) F.three)
  have e4 : F.hostN.size = 4 := rfl
  have hS := Lib.hid (fun (w1 : World) (hb : Below w.heap.size w w1) => strip_any A n c fs w1 hl (by omega) (hx.below hb) hnil)
  have hW := Lib.hid (fun (A1 : Option Addr) (c1 : Nat) (X : Option Addr) (d : Nat) (w1 : World) (hx1 : Rd w1 A1 (F.strip fs).length 2 (fcells (F.strip fs))) (hn1 : A1 = none → (F.strip fs).length = 0 ∧ c1 = 0) (hX : Rd w1 X 3 1 (scells F.three)) =>
    without_any A1 (F.strip fs).length c1 (F.strip fs) X 3 d F.three w1 (by omega) rfl (small_of_bulk (by omega)) hx1 hn1 (by decide) rfl three_small hX)
  have hV := Lib.hid (fun (A1 : Option Addr) (c1 : Nat) (w1 : World) (hb : Below w.heap.size w w1) (hx1 : Rd w1 A1 (1 + (F.without (F.strip fs) F.three).length) 2 (fcells ([(F.hostN, F.hostOf host port)] ++ F.without (F.strip fs) F.three))) =>
    withVia_any A1 (1 + (F.without (F.strip fs) F.three).length) c1 ([(F.hostN, F.hostOf host port)] ++ F.without (F.strip fs) F.three) A n c fs m via w1 (by rw [List.length_append]; rfl) (by rw [F.bulk_append]; simp only [F.bulk]; omega) hx1 (fun h => (hx1.some (by omega) h).elim) hl (by omega) (hx.below hb) h0 h1 (by omega) (ht.below hb))
  by_cases hp : port = 80
  · have HH : Hid (F.hostOf host port = host) := if_pos hp
    exact request_80 s r via host path (B (Lib.itoa port)) (F.hostOf host port) m port A n c _ _ _ _ _ w hS hW hV (by omega) hp HH
  · have HH : Hid (F.hostOf host port = host ++ (⟨#[58]⟩ ++ B (Lib.itoa port))) := if_neg hp
    have e1 : (⟨#[58]⟩ : ByteArray).size = 1 := rfl
    exact request_port s r via host path (B (Lib.itoa port)) (F.hostOf host port) m port A n c _ _ _ _ _ w hS hW hV (by omega) (Lib.hid (fun w1 hb => itoa_any port p0 p1 w1 (ht.below hb))) (by omega) (by omega) hp HH

/-- The five blocks of the walk; the two lists that were copied. -/
def SendS (w : World) (b3 b4 : Nat) (X T Y X1 Y1 : Array Value) (A1 : Option Addr) (fs : List FD) (A2 : Option Addr) (gs : List FD) (u : World) : Prop :=
  (Blk u w.heap.size X 25 ∧ Blk u (w.heap.size + 1) T 66 ∧ Blk u (w.heap.size + 1 + 1) Y 27 ∧ Blk u b3 X1 25 ∧ Blk u b4 Y1 27) ∧ Rd u A1 fs.length 2 (fcells fs) ∧ Rd u A2 gs.length 2 (fcells gs) ∧ Below w.heap.size w u
theorem SendS.below {w u v : World} {b3 b4 : Nat} {X T Y X1 Y1 : Array Value} {A1 A2 : Option Addr} {fs gs : List FD} (h : SendS w b3 b4 X T Y X1 Y1 A1 fs A2 gs u) (hb : Below u.heap.size u v) : SendS w b3 b4 X T Y X1 Y1 A1 fs A2 gs v :=
  ⟨⟨h.1.1.below hb, h.1.2.1.below hb, h.1.2.2.1.below hb, h.1.2.2.2.1.below hb, h.1.2.2.2.2.below hb⟩, h.2.1.below hb, h.2.2.1.below hb, below_then h.2.2.2.size h.2.2.2 hb⟩

end Go.Proofs.YteehjkfmlcfffaaGreatDoor

namespace Go.Proofs.YteehjkfmlcfffaaGreatDoor
open Go.RowKit

/-- What the walk holds behind the request: the request's block, its list, the argument's block. -/
def CleanS (w : World) (b7 : Nat) (X X7 : Array Value) (A2 : Option Addr) (PL : List FD) (u : World) : Prop :=
  Blk u b7 X7 25 ∧ Rd u A2 PL.length 2 (fcells PL) ∧ Blk u w.heap.size X 25 ∧ Below w.heap.size w u
theorem CleanS.below {w u v : World} {b7 : Nat} {X X7 : Array Value} {A2 : Option Addr} {PL : List FD} (h : CleanS w b7 X X7 A2 PL u) (hb : Below u.heap.size u v) : CleanS w b7 X X7 A2 PL v :=
  ⟨h.1.below hb, h.2.1.below hb, h.2.2.1.below hb, below_then h.2.2.2.size h.2.2.2 hb⟩
end Go.Proofs.YteehjkfmlcfffaaGreatDoor
