/- The walk of the document's Request, from the contracts of what it calls. -/
import Derived.Test.YtcoohkgamogmgaaDoorSend
namespace Go.Proofs.YtcoohkgamogmgaaDoor
open Go.RowKit

/-- The four blocks of the walk. -/
def ReqR (w : World) (X T O H : Array Value) (u : World) : Prop := Blk u w.heap.size X 50 ∧ Blk u (w.heap.size + 1) T 52 ∧ Blk u (w.heap.size + 1 + 1) O 50 ∧ Blk u (w.heap.size + 1 + 1 + 1) H 50 ∧ Below w.heap.size w u
theorem ReqR.below {w u v : World} {X T O H : Array Value} (h : ReqR w X T O H u) (hb : Below u.heap.size u v) : ReqR w X T O H v :=
  ⟨h.1.below hb, h.2.1.below hb, h.2.2.1.below hb, h.2.2.2.1.below hb, below_then h.2.2.2.2.size h.2.2.2.2 hb⟩
theorem ReqR.start (w : World) (X T O H : Array Value) : ReqR w X T O H ((((w.alloc (.cells X 50)).alloc (.cells T 52)).alloc (.cells O 50)).alloc (.cells H 50)) := by
  refine ⟨(((Blk.new w X _).alloc _).alloc _).alloc _, ?_, ?_, ?_, ?_⟩
  · have := ((Blk.new (w.alloc (.cells X 50)) T 52).alloc (.cells O 50)).alloc (.cells H 50)
    rwa [World.size_alloc] at this
  · have := (Blk.new ((w.alloc (.cells X 50)).alloc (.cells T 52)) O 50).alloc (.cells H 50)
    rwa [World.size_alloc, World.size_alloc] at this
  · have := Blk.new (((w.alloc (.cells X 50)).alloc (.cells T 52)).alloc (.cells O 50)) H 50
    rwa [World.size_alloc, World.size_alloc, World.size_alloc] at this
  · exact ((((Below.refl _ _).alloc (Nat.le_refl _) _).alloc (by simp only [World.size_alloc]; omega) _).alloc (by simp only [World.size_alloc]; omega) _).alloc (by simp only [World.size_alloc]; omega) _
theorem ReqR.app {w u v : World} {X T O H : Array Value} {A A' : Option Addr} {c c' base size n : Nat} {e : TypeId} {xs : List Value} (h : ReqR w X T O H u) (ha : App u v A c A' c') (hr : Row u base e size A n c xs) (hb : w.heap.size + 4 ≤ base) (hbu : base ≤ u.heap.size) : ReqR w X T O H v :=
  ⟨h.1.app ha (fun k hk => by have := (hr.lt k hk).1; omega), h.2.1.app ha (fun k hk => by have := (hr.lt k hk).1; omega), h.2.2.1.app ha (fun k hk => by have := (hr.lt k hk).1; omega), h.2.2.2.1.app ha (fun k hk => by have := (hr.lt k hk).1; omega), h.2.2.2.2.trans ((ha.below hr hbu).mono (by omega))⟩
theorem newRow1 (u : World) (f : FD) (B : Nat) (hB : B ≤ u.heap.size) : Row (u.alloc (.cells #[.string f.1, .string f.2] 67)) B 67 2 (some ⟨u.heap.size, 0, none⟩) 1 1 (fcells [f]) :=
  .inl ⟨rfl, .inr ⟨u.heap.size, 1, _, rfl, hB, heap_alloc_new u _, Nat.le_refl _, by decide, rfl, rfl⟩⟩

set_option maxRecDepth 100000 in
set_option maxHeartbeats 2000000 in
theorem refRequest_e80 (s r via host path _I hv V : ByteArray) (m port : Int) (A : Option Addr) (n c N M : Nat) (T U P : List FD) (w : World)
    (hSt : Hid (∀ w1 : World, Below w.heap.size w w1 → Calls Tryd.prog 16 #[.slice A n c] w1 (RetRow w1 67 2 N (fcells T))))
    (hW : Hid (∀ (A1 : Option Addr) (c1 : Nat) (X : Option Addr) (d : Nat) (w1 : World), Rd w1 A1 N 2 (fcells T) → Rd w1 X 4 1 (scells F.four) → Calls Tryd.prog 47 #[.slice A1 N c1, .slice X 4 d] w1 (RetRow w1 67 2 M (fcells U))))
    (hV : Hid (∀ w1 : World, Below w.heap.size w w1 → Calls Tryd.prog 66 #[.slice A n c, .int .i64 m, .string via] w1 (RetS w1 V)))
    (hM : M ≤ 1099511627776) (HPL : Hid (P.length = 1 + M + 1)) (HPP : Hid (P = [(F.hostN, hv)] ++ U ++ [(F.via3, V)]))
    (HPV : Hid (F.pathOf path = ⟨#[47]⟩)) (hpe : path = ⟨#[]⟩) (hp : port = 80) (HHV : Hid (hv = host)) :
    Calls Tryd.prog 36 #[.agg #[.string s, .string r, .int .i64 m, .slice A n c], .agg #[.string host, .int .i64 port, .string path], .string via] w (RetQ w s (F.pathOf path) 1 P) := by
  have hpp := HPP.out
  rw [HHV.out] at hpp
  clear HPP
  have HPP := Lib.hid hpp
  clear hpp
  have hpb : (port != 80) = false := by rw [hp]; rfl
  clear hp
  subst hpe
  go_enter Tryd.func36, Tryd.ntmps36
  go_wp2
  have HS7 := Lib.hid ((ReqR.start w #[.string s, .string r, .int .i64 m, .slice A n c] #[.string host, .int .i64 port, .string ⟨#[]⟩] #[.string ⟨#[]⟩, .string ⟨#[]⟩, .int .i64 0, .slice none 0 0] #[.string s, .string ⟨#[47]⟩, .int .i64 1, .slice (some ⟨w.heap.size + 1 + 1 + 1 + 1, 0, none⟩) 1 1]).below ((Below.refl _ _).alloc (Nat.le_refl _) (.cells #[.string ⟨#[72, 111, 115, 116]⟩, .string host] 67)))
  have hr7 : Row (((((w.alloc (.cells #[.string s, .string r, .int .i64 m, .slice A n c] 50)).alloc (.cells #[.string host, .int .i64 port, .string ⟨#[]⟩] 52)).alloc (.cells #[.string ⟨#[]⟩, .string ⟨#[]⟩, .int .i64 0, .slice none 0 0] 50)).alloc (.cells #[.string s, .string ⟨#[47]⟩, .int .i64 1, .slice (some ⟨w.heap.size + 1 + 1 + 1 + 1, 0, none⟩) 1 1] 50)).alloc (.cells #[.string ⟨#[72, 111, 115, 116]⟩, .string host] 67)) (w.heap.size + 4) 67 2 (some ⟨w.heap.size + 1 + 1 + 1 + 1, 0, none⟩) 1 1 (fcells [(F.hostN, host)]) := by
    have := newRow1 ((((w.alloc (.cells #[.string s, .string r, .int .i64 m, .slice A n c] 50)).alloc (.cells #[.string host, .int .i64 port, .string ⟨#[]⟩] 52)).alloc (.cells #[.string ⟨#[]⟩, .string ⟨#[]⟩, .int .i64 0, .slice none 0 0] 50)).alloc (.cells #[.string s, .string ⟨#[47]⟩, .int .i64 1, .slice (some ⟨w.heap.size + 1 + 1 + 1 + 1, 0, none⟩) 1 1] 50)) (F.hostN, host) (w.heap.size + 4) (by simp only [World.size_alloc]; omega)
    simp only [World.size_alloc] at this
    exact this
  have HR7 := Lib.hid hr7
  clear hr7
  generalize (((((w.alloc (.cells #[.string s, .string r, .int .i64 m, .slice A n c] 50)).alloc (.cells #[.string host, .int .i64 port, .string ⟨#[]⟩] 52)).alloc (.cells #[.string ⟨#[]⟩, .string ⟨#[]⟩, .int .i64 0, .slice none 0 0] 50)).alloc (.cells #[.string s, .string ⟨#[47]⟩, .int .i64 1, .slice (some ⟨w.heap.size + 1 + 1 + 1 + 1, 0, none⟩) 1 1] 50)).alloc (.cells #[.string ⟨#[72, 111, 115, 116]⟩, .string host] 67)) = w7 at *
  have hS0 : (ReqR w #[.string s, .string r, .int .i64 m, .slice A n c] #[.string host, .int .i64 port, .string ⟨#[]⟩] #[.string ⟨#[]⟩, .string ⟨#[]⟩, .int .i64 0, .slice none 0 0] #[.string s, .string ⟨#[47]⟩, .int .i64 1, .slice (some ⟨w.heap.size + 1 + 1 + 1 + 1, 0, none⟩) 1 1] w7.drew ∧ w7.heap.size ≤ w7.drew.heap.size ∧ Row w7.drew (w.heap.size + 4) 67 2 (some ⟨w.heap.size + 1 + 1 + 1 + 1, 0, none⟩) 1 1 (fcells [(F.hostN, host)])) := ⟨HS7.out.below (Below.refl _ _).drew, Nat.le_refl _, HR7.out⟩
  refine wp_region_noPanic ?_
  refine HT.begin (n := 7) (S := fun u => ReqR w #[.string s, .string r, .int .i64 m, .slice A n c] #[.string host, .int .i64 port, .string ⟨#[]⟩] #[.string ⟨#[]⟩, .string ⟨#[]⟩, .int .i64 0, .slice none 0 0] #[.string s, .string ⟨#[47]⟩, .int .i64 1, .slice (some ⟨w.heap.size + 1 + 1 + 1 + 1, 0, none⟩) 1 1] u ∧ w7.heap.size ≤ u.heap.size ∧ Row u (w.heap.size + 4) 67 2 (some ⟨w.heap.size + 1 + 1 + 1 + 1, 0, none⟩) 1 1 (fcells [(F.hostN, host)])) (by kernel_rfl) hS0 ?_
  refine HT.take 0 (.pointer (some ⟨w.heap.size + 1 + 1 + 1, 3, none⟩)) rfl (by kernel_rfl) (fun _ _ _ h => h) (Or.inl ⟨by rfl, ?_⟩) (?_ : HT _ _ _ _ _ _ _ ⟨#[.agg #[.string s, .string r, .int .i64 m, .slice A n c], .agg #[.string host, .int .i64 port, .string ⟨#[]⟩], .string via, .pointer (some ⟨w.heap.size, 0, none⟩), .pointer (some ⟨w.heap.size + 1, 0, none⟩), undef, .pointer (some ⟨w.heap.size + 1 + 1, 0, none⟩), .pointer (some ⟨w.heap.size + 1 + 1 + 1, 0, none⟩), .string host, .pointer (some ⟨w.heap.size, 0, none⟩), .string s, .pointer (some ⟨w.heap.size + 1, 2, none⟩), .string ⟨#[]⟩, .agg #[.string s, .string ⟨#[]⟩, .int .i64 1, .slice none 0 0], .pointer (some ⟨w.heap.size + 1, 2, none⟩), .string ⟨#[]⟩, .bool true, .pointer (some ⟨w.heap.size + 1 + 1 + 1, 1, none⟩), .pointer (some ⟨w.heap.size + 1, 0, none⟩), .string host, .pointer (some ⟨w.heap.size + 1, 1, none⟩), .int .i64 port, .bool false, undef, undef, undef, undef, undef, undef, .string host, .agg #[.string ⟨#[72, 111, 115, 116]⟩, .string host], .slice (some ⟨w.heap.size + 1 + 1 + 1 + 1, 0, none⟩) 1 1, .pointer (some ⟨w.heap.size + 1 + 1 + 1, 3, none⟩), .pointer (some ⟨w.heap.size + 1 + 1 + 1, 3, none⟩), undef, undef, undef, undef, undef, undef, undef, undef, undef, undef, undef, undef, undef, undef, undef, undef, undef, undef, undef, undef, undef], []⟩ _)
  · intro u hu
    go_simp
  refine HT.take 1 (.slice (some ⟨w.heap.size + 1 + 1 + 1 + 1, 0, none⟩) 1 1) rfl (by kernel_rfl) (fun _ _ _ h => h) (Or.inl ⟨by rfl, ?_⟩) (?_ : HT _ _ _ _ _ _ _ ⟨#[.agg #[.string s, .string r, .int .i64 m, .slice A n c], .agg #[.string host, .int .i64 port, .string ⟨#[]⟩], .string via, .pointer (some ⟨w.heap.size, 0, none⟩), .pointer (some ⟨w.heap.size + 1, 0, none⟩), undef, .pointer (some ⟨w.heap.size + 1 + 1, 0, none⟩), .pointer (some ⟨w.heap.size + 1 + 1 + 1, 0, none⟩), .string host, .pointer (some ⟨w.heap.size, 0, none⟩), .string s, .pointer (some ⟨w.heap.size + 1, 2, none⟩), .string ⟨#[]⟩, .agg #[.string s, .string ⟨#[]⟩, .int .i64 1, .slice none 0 0], .pointer (some ⟨w.heap.size + 1, 2, none⟩), .string ⟨#[]⟩, .bool true, .pointer (some ⟨w.heap.size + 1 + 1 + 1, 1, none⟩), .pointer (some ⟨w.heap.size + 1, 0, none⟩), .string host, .pointer (some ⟨w.heap.size + 1, 1, none⟩), .int .i64 port, .bool false, undef, undef, undef, undef, undef, undef, .string host, .agg #[.string ⟨#[72, 111, 115, 116]⟩, .string host], .slice (some ⟨w.heap.size + 1 + 1 + 1 + 1, 0, none⟩) 1 1, .pointer (some ⟨w.heap.size + 1 + 1 + 1, 3, none⟩), .pointer (some ⟨w.heap.size + 1 + 1 + 1, 3, none⟩), .slice (some ⟨w.heap.size + 1 + 1 + 1 + 1, 0, none⟩) 1 1, undef, undef, undef, undef, undef, undef, undef, undef, undef, undef, undef, undef, undef, undef, undef, undef, undef, undef, undef, undef], []⟩ _)
  · intro u hu
    obtain ⟨⟨hx, ht, ho, hh, hb⟩, hz⟩ := hu
    have c3 := hh.cell 3 rfl
    go_simp
  refine HT.take 2 (.pointer (some ⟨w.heap.size, 3, none⟩)) rfl (by kernel_rfl) (fun _ _ _ h => h) (Or.inl ⟨by rfl, ?_⟩) (?_ : HT _ _ _ _ _ _ _ ⟨#[.agg #[.string s, .string r, .int .i64 m, .slice A n c], .agg #[.string host, .int .i64 port, .string ⟨#[]⟩], .string via, .pointer (some ⟨w.heap.size, 0, none⟩), .pointer (some ⟨w.heap.size + 1, 0, none⟩), undef, .pointer (some ⟨w.heap.size + 1 + 1, 0, none⟩), .pointer (some ⟨w.heap.size + 1 + 1 + 1, 0, none⟩), .string host, .pointer (some ⟨w.heap.size, 0, none⟩), .string s, .pointer (some ⟨w.heap.size + 1, 2, none⟩), .string ⟨#[]⟩, .agg #[.string s, .string ⟨#[]⟩, .int .i64 1, .slice none 0 0], .pointer (some ⟨w.heap.size + 1, 2, none⟩), .string ⟨#[]⟩, .bool true, .pointer (some ⟨w.heap.size + 1 + 1 + 1, 1, none⟩), .pointer (some ⟨w.heap.size + 1, 0, none⟩), .string host, .pointer (some ⟨w.heap.size + 1, 1, none⟩), .int .i64 port, .bool false, undef, undef, undef, undef, undef, undef, .string host, .agg #[.string ⟨#[72, 111, 115, 116]⟩, .string host], .slice (some ⟨w.heap.size + 1 + 1 + 1 + 1, 0, none⟩) 1 1, .pointer (some ⟨w.heap.size + 1 + 1 + 1, 3, none⟩), .pointer (some ⟨w.heap.size + 1 + 1 + 1, 3, none⟩), .slice (some ⟨w.heap.size + 1 + 1 + 1 + 1, 0, none⟩) 1 1, .pointer (some ⟨w.heap.size, 3, none⟩), undef, undef, undef, undef, undef, undef, undef, undef, undef, undef, undef, undef, undef, undef, undef, undef, undef, undef, undef], []⟩ _)
  · intro u hu
    go_simp
  refine HT.take 3 (.slice A n c) rfl (by kernel_rfl) (fun _ _ _ h => h) (Or.inl ⟨by rfl, ?_⟩) (?_ : HT _ _ _ _ _ _ _ ⟨#[.agg #[.string s, .string r, .int .i64 m, .slice A n c], .agg #[.string host, .int .i64 port, .string ⟨#[]⟩], .string via, .pointer (some ⟨w.heap.size, 0, none⟩), .pointer (some ⟨w.heap.size + 1, 0, none⟩), undef, .pointer (some ⟨w.heap.size + 1 + 1, 0, none⟩), .pointer (some ⟨w.heap.size + 1 + 1 + 1, 0, none⟩), .string host, .pointer (some ⟨w.heap.size, 0, none⟩), .string s, .pointer (some ⟨w.heap.size + 1, 2, none⟩), .string ⟨#[]⟩, .agg #[.string s, .string ⟨#[]⟩, .int .i64 1, .slice none 0 0], .pointer (some ⟨w.heap.size + 1, 2, none⟩), .string ⟨#[]⟩, .bool true, .pointer (some ⟨w.heap.size + 1 + 1 + 1, 1, none⟩), .pointer (some ⟨w.heap.size + 1, 0, none⟩), .string host, .pointer (some ⟨w.heap.size + 1, 1, none⟩), .int .i64 port, .bool false, undef, undef, undef, undef, undef, undef, .string host, .agg #[.string ⟨#[72, 111, 115, 116]⟩, .string host], .slice (some ⟨w.heap.size + 1 + 1 + 1 + 1, 0, none⟩) 1 1, .pointer (some ⟨w.heap.size + 1 + 1 + 1, 3, none⟩), .pointer (some ⟨w.heap.size + 1 + 1 + 1, 3, none⟩), .slice (some ⟨w.heap.size + 1 + 1 + 1 + 1, 0, none⟩) 1 1, .pointer (some ⟨w.heap.size, 3, none⟩), .slice A n c, undef, undef, undef, undef, undef, undef, undef, undef, undef, undef, undef, undef, undef, undef, undef, undef, undef, undef], []⟩ _)
  · intro u hu
    obtain ⟨⟨hx, ht, ho, hh, hb⟩, hz⟩ := hu
    have c3 := hx.cell 3 rfl
    go_simp
  refine HT.block (f0 := 3) [4, 5, 6] (fun j v u => match j with | 4 => SlRow w.heap.size 67 2 N (fcells T) v u | 5 => SlRd 1 4 (scells F.four) v u | 6 => SlRow w.heap.size 67 2 M (fcells U) v u | _ => True) (fun vs => ⟨#[.agg #[.string s, .string r, .int .i64 m, .slice A n c], .agg #[.string host, .int .i64 port, .string ⟨#[]⟩], .string via, .pointer (some ⟨w.heap.size, 0, none⟩), .pointer (some ⟨w.heap.size + 1, 0, none⟩), undef, .pointer (some ⟨w.heap.size + 1 + 1, 0, none⟩), .pointer (some ⟨w.heap.size + 1 + 1 + 1, 0, none⟩), .string host, .pointer (some ⟨w.heap.size, 0, none⟩), .string s, .pointer (some ⟨w.heap.size + 1, 2, none⟩), .string ⟨#[]⟩, .agg #[.string s, .string ⟨#[]⟩, .int .i64 1, .slice none 0 0], .pointer (some ⟨w.heap.size + 1, 2, none⟩), .string ⟨#[]⟩, .bool true, .pointer (some ⟨w.heap.size + 1 + 1 + 1, 1, none⟩), .pointer (some ⟨w.heap.size + 1, 0, none⟩), .string host, .pointer (some ⟨w.heap.size + 1, 1, none⟩), .int .i64 port, .bool false, undef, undef, undef, undef, undef, undef, .string host, .agg #[.string ⟨#[72, 111, 115, 116]⟩, .string host], .slice (some ⟨w.heap.size + 1 + 1 + 1 + 1, 0, none⟩) 1 1, .pointer (some ⟨w.heap.size + 1 + 1 + 1, 3, none⟩), .pointer (some ⟨w.heap.size + 1 + 1 + 1, 3, none⟩), .slice (some ⟨w.heap.size + 1 + 1 + 1 + 1, 0, none⟩) 1 1, .pointer (some ⟨w.heap.size, 3, none⟩), .slice A n c, vs 4, vs 5, vs 6, undef, undef, undef, undef, undef, undef, undef, undef, undef, undef, undef, undef, undef, undef, undef], []⟩) (fun _ => rfl) (by kernel_rfl) (fun u u' hb h => ⟨h.1.below hb, Nat.le_trans h.2.1 hb.size, h.2.2.below hb⟩) (fun j v u u' hb h => by revert h; split <;> intro h <;> first | exact h.below hb | trivial) (List.forall_mem_cons.2 ⟨⟨_, rfl, ?_⟩, List.forall_mem_cons.2 ⟨⟨_, rfl, ?_⟩, List.forall_mem_cons.2 ⟨⟨_, rfl, ?_⟩, fun _ h => by cases h⟩⟩⟩) ?_
  · intro vs u hS hd K hK
    go_simp
    refine (hSt.out u hS.1.2.2.2.2).mono ?_
    rintro e w8 ⟨A1, c1, rfl, hr, hb⟩
    exact hK.out (.slice A1 N c1) _ ⟨A1, c1, rfl, hr.mono hS.1.2.2.2.2.size⟩ hb
  · intro vs u hS hd K hK
    go_simp
    exact hK.out (.slice (some ⟨u.heap.size, 0, none⟩) 4 4) _ ⟨_, _, rfl, Rd.newRow _ _ _ 4 1 rfl⟩ ((Below.refl _ _).alloc (Nat.le_refl _) _)
  · intro vs u hS hd K hK
    obtain ⟨A1, c1, e1, hr1⟩ : SlRow w.heap.size 67 2 N (fcells T) (vs 4) u := hd 4 (by simp) (by kernel_rfl)
    obtain ⟨A2, c2, e2, hr2⟩ : SlRd 1 4 (scells F.four) (vs 5) u := hd 5 (by simp) (by kernel_rfl)
    have hc := hW.out A1 c1 A2 c2 u hr1.rd hr2
    rw [← e1, ← e2] at hc
    clear e1 e2 hd
    have HC := Lib.hid hc
    clear hc
    go_simp
    refine HC.out.mono ?_
    rintro e w8 ⟨A3, c3, rfl, hr, hb⟩
    exact hK.out (.slice A3 M c3) _ ⟨A3, c3, rfl, hr.mono hS.1.2.2.2.2.size⟩ hb
  intro vs u hS hR
  have hv37 := hR 4 (by simp)
  generalize vs 4 = v37 at *
  have hv38 := hR 5 (by simp)
  generalize vs 5 = v38 at *
  have hv39 := hR 6 (by simp)
  generalize vs 6 = v39 at *
  clear hR
  refine (?_ : HT _ _ _ _ _ _ _ ⟨#[.agg #[.string s, .string r, .int .i64 m, .slice A n c], .agg #[.string host, .int .i64 port, .string ⟨#[]⟩], .string via, .pointer (some ⟨w.heap.size, 0, none⟩), .pointer (some ⟨w.heap.size + 1, 0, none⟩), undef, .pointer (some ⟨w.heap.size + 1 + 1, 0, none⟩), .pointer (some ⟨w.heap.size + 1 + 1 + 1, 0, none⟩), .string host, .pointer (some ⟨w.heap.size, 0, none⟩), .string s, .pointer (some ⟨w.heap.size + 1, 2, none⟩), .string ⟨#[]⟩, .agg #[.string s, .string ⟨#[]⟩, .int .i64 1, .slice none 0 0], .pointer (some ⟨w.heap.size + 1, 2, none⟩), .string ⟨#[]⟩, .bool true, .pointer (some ⟨w.heap.size + 1 + 1 + 1, 1, none⟩), .pointer (some ⟨w.heap.size + 1, 0, none⟩), .string host, .pointer (some ⟨w.heap.size + 1, 1, none⟩), .int .i64 port, .bool false, undef, undef, undef, undef, undef, undef, .string host, .agg #[.string ⟨#[72, 111, 115, 116]⟩, .string host], .slice (some ⟨w.heap.size + 1 + 1 + 1 + 1, 0, none⟩) 1 1, .pointer (some ⟨w.heap.size + 1 + 1 + 1, 3, none⟩), .pointer (some ⟨w.heap.size + 1 + 1 + 1, 3, none⟩), .slice (some ⟨w.heap.size + 1 + 1 + 1 + 1, 0, none⟩) 1 1, .pointer (some ⟨w.heap.size, 3, none⟩), .slice A n c, v37, v38, v39, undef, undef, undef, undef, undef, undef, undef, undef, undef, undef, undef, undef, undef, undef, undef], []⟩ _)
  obtain ⟨A2, c2, rfl, hr2⟩ := hv37
  obtain ⟨A3, c3, rfl, hr3⟩ := hv38
  obtain ⟨A4, c4, rfl, hr4⟩ := hv39
  clear hr2 hr3
  refine HT.tail _ rfl rfl (by kernel_rfl) (fun hS => ?_)
  have HS8 := Lib.hid hS
  clear hS
  have hz8 : w.heap.size + 4 ≤ u.heap.size := by have := HS8.out.1.2.2.2.1.lt; omega
  refine appF _ rfl (.tmp 34) (.tmp 39) rfl (w.heap.size + 4) (some ⟨w.heap.size + 1 + 1 + 1 + 1, 0, none⟩) 1 1 [(F.hostN, host)] rfl HS8.out.2.2 A4 M c4 U rfl hr4.rd (by omega) hz8 ?_
  intro A5 c5 w8 hr5 ha5
  have HS9 := Lib.hid (HS8.out.1.app ha5 HS8.out.2.2 (Nat.le_refl _) hz8)
  have d3 := HS9.out.2.2.2.1.cell 3 (v := .slice (some ⟨w.heap.size + 1 + 1 + 1 + 1, 0, none⟩) 1 1) rfl
  have g3 := HS9.out.2.2.2.1.free 3
  have HT9 : Hid (ReqR w #[.string s, .string r, .int .i64 m, .slice A n c] #[.string host, .int .i64 port, .string ⟨#[]⟩] #[.string ⟨#[]⟩, .string ⟨#[]⟩, .int .i64 0, .slice none 0 0] #[.string s, .string ⟨#[47]⟩, .int .i64 1, .slice A5 (1 + M) c5] (w8.setCell ⟨w.heap.size + 1 + 1 + 1, 3, none⟩ (.slice A5 (1 + M) c5))) := Lib.hid ⟨HS9.out.1.far (b' := w.heap.size + 1 + 1 + 1) 3 _ (by omega), HS9.out.2.1.far (b' := w.heap.size + 1 + 1 + 1) 3 _ (by omega), HS9.out.2.2.1.far (b' := w.heap.size + 1 + 1 + 1) 3 _ (by omega), HS9.out.2.2.2.1.set 3 _, below_set HS9.out.2.2.2.2 (b := w.heap.size + 1 + 1 + 1) (by omega) 3 _⟩
  have HR9 := Lib.hid (hr5.farT HS9.out.2.2.2.1 (by decide) 3 (.slice A5 (1 + M) c5))
  clear hr4 ha5 hr5 HS8 HS9 HS7 HR7 hz8
  go_wp2
  refine NoPanic.normal ?_
  go_wp2
  clear d3 g3
  generalize w8.setCell ⟨w.heap.size + 1 + 1 + 1, 3, none⟩ (.slice A5 (1 + M) c5) = w9 at *
  have hS1 : (ReqR w #[.string s, .string r, .int .i64 m, .slice A n c] #[.string host, .int .i64 port, .string ⟨#[]⟩] #[.string ⟨#[]⟩, .string ⟨#[]⟩, .int .i64 0, .slice none 0 0] #[.string s, .string ⟨#[47]⟩, .int .i64 1, .slice A5 (1 + M) c5] w9.drew ∧ Row w9.drew (w.heap.size + 4) 67 2 A5 (1 + M) c5 (fcells ([(F.hostN, host)] ++ U))) := ⟨HT9.out.below (Below.refl _ _).drew, HR9.out⟩
  refine wp_region_noPanic ?_
  refine HT.begin (n := 10) (S := fun u => ReqR w #[.string s, .string r, .int .i64 m, .slice A n c] #[.string host, .int .i64 port, .string ⟨#[]⟩] #[.string ⟨#[]⟩, .string ⟨#[]⟩, .int .i64 0, .slice none 0 0] #[.string s, .string ⟨#[47]⟩, .int .i64 1, .slice A5 (1 + M) c5] u ∧ Row u (w.heap.size + 4) 67 2 A5 (1 + M) c5 (fcells ([(F.hostN, host)] ++ U))) (by kernel_rfl) hS1 ?_
  refine HT.take 0 (.pointer (some ⟨w.heap.size + 1 + 1 + 1, 3, none⟩)) rfl (by kernel_rfl) (fun _ _ _ h => h) (Or.inl ⟨by rfl, ?_⟩) (?_ : HT _ _ _ _ _ _ _ ⟨#[.agg #[.string s, .string r, .int .i64 m, .slice A n c], .agg #[.string host, .int .i64 port, .string ⟨#[]⟩], .string via, .pointer (some ⟨w.heap.size, 0, none⟩), .pointer (some ⟨w.heap.size + 1, 0, none⟩), undef, .pointer (some ⟨w.heap.size + 1 + 1, 0, none⟩), .pointer (some ⟨w.heap.size + 1 + 1 + 1, 0, none⟩), .string host, .pointer (some ⟨w.heap.size, 0, none⟩), .string s, .pointer (some ⟨w.heap.size + 1, 2, none⟩), .string ⟨#[]⟩, .agg #[.string s, .string ⟨#[]⟩, .int .i64 1, .slice none 0 0], .pointer (some ⟨w.heap.size + 1, 2, none⟩), .string ⟨#[]⟩, .bool true, .pointer (some ⟨w.heap.size + 1 + 1 + 1, 1, none⟩), .pointer (some ⟨w.heap.size + 1, 0, none⟩), .string host, .pointer (some ⟨w.heap.size + 1, 1, none⟩), .int .i64 port, .bool false, undef, undef, undef, undef, undef, undef, .string host, .agg #[.string ⟨#[72, 111, 115, 116]⟩, .string host], .slice (some ⟨w.heap.size + 1 + 1 + 1 + 1, 0, none⟩) 1 1, .pointer (some ⟨w.heap.size + 1 + 1 + 1, 3, none⟩), .pointer (some ⟨w.heap.size + 1 + 1 + 1, 3, none⟩), .slice (some ⟨w.heap.size + 1 + 1 + 1 + 1, 0, none⟩) 1 1, .pointer (some ⟨w.heap.size, 3, none⟩), .slice A n c, .slice A2 N c2, .slice A3 4 c3, .slice A4 M c4, .slice A5 (1 + M) c5, .pointer (some ⟨w.heap.size + 1 + 1 + 1, 3, none⟩), .pointer (some ⟨w.heap.size + 1 + 1 + 1, 3, none⟩), undef, undef, undef, undef, undef, undef, undef, undef, undef, undef, undef, undef], []⟩ _)
  · intro u hu
    go_simp
  refine HT.take 1 (.slice A5 (1 + M) c5) rfl (by kernel_rfl) (fun _ _ _ h => h) (Or.inl ⟨by rfl, ?_⟩) (?_ : HT _ _ _ _ _ _ _ ⟨#[.agg #[.string s, .string r, .int .i64 m, .slice A n c], .agg #[.string host, .int .i64 port, .string ⟨#[]⟩], .string via, .pointer (some ⟨w.heap.size, 0, none⟩), .pointer (some ⟨w.heap.size + 1, 0, none⟩), undef, .pointer (some ⟨w.heap.size + 1 + 1, 0, none⟩), .pointer (some ⟨w.heap.size + 1 + 1 + 1, 0, none⟩), .string host, .pointer (some ⟨w.heap.size, 0, none⟩), .string s, .pointer (some ⟨w.heap.size + 1, 2, none⟩), .string ⟨#[]⟩, .agg #[.string s, .string ⟨#[]⟩, .int .i64 1, .slice none 0 0], .pointer (some ⟨w.heap.size + 1, 2, none⟩), .string ⟨#[]⟩, .bool true, .pointer (some ⟨w.heap.size + 1 + 1 + 1, 1, none⟩), .pointer (some ⟨w.heap.size + 1, 0, none⟩), .string host, .pointer (some ⟨w.heap.size + 1, 1, none⟩), .int .i64 port, .bool false, undef, undef, undef, undef, undef, undef, .string host, .agg #[.string ⟨#[72, 111, 115, 116]⟩, .string host], .slice (some ⟨w.heap.size + 1 + 1 + 1 + 1, 0, none⟩) 1 1, .pointer (some ⟨w.heap.size + 1 + 1 + 1, 3, none⟩), .pointer (some ⟨w.heap.size + 1 + 1 + 1, 3, none⟩), .slice (some ⟨w.heap.size + 1 + 1 + 1 + 1, 0, none⟩) 1 1, .pointer (some ⟨w.heap.size, 3, none⟩), .slice A n c, .slice A2 N c2, .slice A3 4 c3, .slice A4 M c4, .slice A5 (1 + M) c5, .pointer (some ⟨w.heap.size + 1 + 1 + 1, 3, none⟩), .pointer (some ⟨w.heap.size + 1 + 1 + 1, 3, none⟩), .slice A5 (1 + M) c5, undef, undef, undef, undef, undef, undef, undef, undef, undef, undef, undef], []⟩ _)
  · intro u hu
    obtain ⟨⟨hx, ht, ho, hh, hb⟩, hz⟩ := hu
    have c3 := hh.cell 3 rfl
    go_simp
  refine HT.take 2 (.pointer (some ⟨w.heap.size, 3, none⟩)) rfl (by kernel_rfl) (fun _ _ _ h => h) (Or.inl ⟨by rfl, ?_⟩) (?_ : HT _ _ _ _ _ _ _ ⟨#[.agg #[.string s, .string r, .int .i64 m, .slice A n c], .agg #[.string host, .int .i64 port, .string ⟨#[]⟩], .string via, .pointer (some ⟨w.heap.size, 0, none⟩), .pointer (some ⟨w.heap.size + 1, 0, none⟩), undef, .pointer (some ⟨w.heap.size + 1 + 1, 0, none⟩), .pointer (some ⟨w.heap.size + 1 + 1 + 1, 0, none⟩), .string host, .pointer (some ⟨w.heap.size, 0, none⟩), .string s, .pointer (some ⟨w.heap.size + 1, 2, none⟩), .string ⟨#[]⟩, .agg #[.string s, .string ⟨#[]⟩, .int .i64 1, .slice none 0 0], .pointer (some ⟨w.heap.size + 1, 2, none⟩), .string ⟨#[]⟩, .bool true, .pointer (some ⟨w.heap.size + 1 + 1 + 1, 1, none⟩), .pointer (some ⟨w.heap.size + 1, 0, none⟩), .string host, .pointer (some ⟨w.heap.size + 1, 1, none⟩), .int .i64 port, .bool false, undef, undef, undef, undef, undef, undef, .string host, .agg #[.string ⟨#[72, 111, 115, 116]⟩, .string host], .slice (some ⟨w.heap.size + 1 + 1 + 1 + 1, 0, none⟩) 1 1, .pointer (some ⟨w.heap.size + 1 + 1 + 1, 3, none⟩), .pointer (some ⟨w.heap.size + 1 + 1 + 1, 3, none⟩), .slice (some ⟨w.heap.size + 1 + 1 + 1 + 1, 0, none⟩) 1 1, .pointer (some ⟨w.heap.size, 3, none⟩), .slice A n c, .slice A2 N c2, .slice A3 4 c3, .slice A4 M c4, .slice A5 (1 + M) c5, .pointer (some ⟨w.heap.size + 1 + 1 + 1, 3, none⟩), .pointer (some ⟨w.heap.size + 1 + 1 + 1, 3, none⟩), .slice A5 (1 + M) c5, .pointer (some ⟨w.heap.size, 3, none⟩), undef, undef, undef, undef, undef, undef, undef, undef, undef, undef], []⟩ _)
  · intro u hu
    go_simp
  refine HT.take 3 (.slice A n c) rfl (by kernel_rfl) (fun _ _ _ h => h) (Or.inl ⟨by rfl, ?_⟩) (?_ : HT _ _ _ _ _ _ _ ⟨#[.agg #[.string s, .string r, .int .i64 m, .slice A n c], .agg #[.string host, .int .i64 port, .string ⟨#[]⟩], .string via, .pointer (some ⟨w.heap.size, 0, none⟩), .pointer (some ⟨w.heap.size + 1, 0, none⟩), undef, .pointer (some ⟨w.heap.size + 1 + 1, 0, none⟩), .pointer (some ⟨w.heap.size + 1 + 1 + 1, 0, none⟩), .string host, .pointer (some ⟨w.heap.size, 0, none⟩), .string s, .pointer (some ⟨w.heap.size + 1, 2, none⟩), .string ⟨#[]⟩, .agg #[.string s, .string ⟨#[]⟩, .int .i64 1, .slice none 0 0], .pointer (some ⟨w.heap.size + 1, 2, none⟩), .string ⟨#[]⟩, .bool true, .pointer (some ⟨w.heap.size + 1 + 1 + 1, 1, none⟩), .pointer (some ⟨w.heap.size + 1, 0, none⟩), .string host, .pointer (some ⟨w.heap.size + 1, 1, none⟩), .int .i64 port, .bool false, undef, undef, undef, undef, undef, undef, .string host, .agg #[.string ⟨#[72, 111, 115, 116]⟩, .string host], .slice (some ⟨w.heap.size + 1 + 1 + 1 + 1, 0, none⟩) 1 1, .pointer (some ⟨w.heap.size + 1 + 1 + 1, 3, none⟩), .pointer (some ⟨w.heap.size + 1 + 1 + 1, 3, none⟩), .slice (some ⟨w.heap.size + 1 + 1 + 1 + 1, 0, none⟩) 1 1, .pointer (some ⟨w.heap.size, 3, none⟩), .slice A n c, .slice A2 N c2, .slice A3 4 c3, .slice A4 M c4, .slice A5 (1 + M) c5, .pointer (some ⟨w.heap.size + 1 + 1 + 1, 3, none⟩), .pointer (some ⟨w.heap.size + 1 + 1 + 1, 3, none⟩), .slice A5 (1 + M) c5, .pointer (some ⟨w.heap.size, 3, none⟩), .slice A n c, undef, undef, undef, undef, undef, undef, undef, undef, undef], []⟩ _)
  · intro u hu
    obtain ⟨⟨hx, ht, ho, hh, hb⟩, hz⟩ := hu
    have c3 := hx.cell 3 rfl
    go_simp
  refine HT.take 4 (.pointer (some ⟨w.heap.size, 2, none⟩)) rfl (by kernel_rfl) (fun _ _ _ h => h) (Or.inl ⟨by rfl, ?_⟩) (?_ : HT _ _ _ _ _ _ _ ⟨#[.agg #[.string s, .string r, .int .i64 m, .slice A n c], .agg #[.string host, .int .i64 port, .string ⟨#[]⟩], .string via, .pointer (some ⟨w.heap.size, 0, none⟩), .pointer (some ⟨w.heap.size + 1, 0, none⟩), undef, .pointer (some ⟨w.heap.size + 1 + 1, 0, none⟩), .pointer (some ⟨w.heap.size + 1 + 1 + 1, 0, none⟩), .string host, .pointer (some ⟨w.heap.size, 0, none⟩), .string s, .pointer (some ⟨w.heap.size + 1, 2, none⟩), .string ⟨#[]⟩, .agg #[.string s, .string ⟨#[]⟩, .int .i64 1, .slice none 0 0], .pointer (some ⟨w.heap.size + 1, 2, none⟩), .string ⟨#[]⟩, .bool true, .pointer (some ⟨w.heap.size + 1 + 1 + 1, 1, none⟩), .pointer (some ⟨w.heap.size + 1, 0, none⟩), .string host, .pointer (some ⟨w.heap.size + 1, 1, none⟩), .int .i64 port, .bool false, undef, undef, undef, undef, undef, undef, .string host, .agg #[.string ⟨#[72, 111, 115, 116]⟩, .string host], .slice (some ⟨w.heap.size + 1 + 1 + 1 + 1, 0, none⟩) 1 1, .pointer (some ⟨w.heap.size + 1 + 1 + 1, 3, none⟩), .pointer (some ⟨w.heap.size + 1 + 1 + 1, 3, none⟩), .slice (some ⟨w.heap.size + 1 + 1 + 1 + 1, 0, none⟩) 1 1, .pointer (some ⟨w.heap.size, 3, none⟩), .slice A n c, .slice A2 N c2, .slice A3 4 c3, .slice A4 M c4, .slice A5 (1 + M) c5, .pointer (some ⟨w.heap.size + 1 + 1 + 1, 3, none⟩), .pointer (some ⟨w.heap.size + 1 + 1 + 1, 3, none⟩), .slice A5 (1 + M) c5, .pointer (some ⟨w.heap.size, 3, none⟩), .slice A n c, .pointer (some ⟨w.heap.size, 2, none⟩), undef, undef, undef, undef, undef, undef, undef, undef], []⟩ _)
  · intro u hu
    go_simp
  refine HT.take 5 (.int .i64 m) rfl (by kernel_rfl) (fun _ _ _ h => h) (Or.inl ⟨by rfl, ?_⟩) (?_ : HT _ _ _ _ _ _ _ ⟨#[.agg #[.string s, .string r, .int .i64 m, .slice A n c], .agg #[.string host, .int .i64 port, .string ⟨#[]⟩], .string via, .pointer (some ⟨w.heap.size, 0, none⟩), .pointer (some ⟨w.heap.size + 1, 0, none⟩), undef, .pointer (some ⟨w.heap.size + 1 + 1, 0, none⟩), .pointer (some ⟨w.heap.size + 1 + 1 + 1, 0, none⟩), .string host, .pointer (some ⟨w.heap.size, 0, none⟩), .string s, .pointer (some ⟨w.heap.size + 1, 2, none⟩), .string ⟨#[]⟩, .agg #[.string s, .string ⟨#[]⟩, .int .i64 1, .slice none 0 0], .pointer (some ⟨w.heap.size + 1, 2, none⟩), .string ⟨#[]⟩, .bool true, .pointer (some ⟨w.heap.size + 1 + 1 + 1, 1, none⟩), .pointer (some ⟨w.heap.size + 1, 0, none⟩), .string host, .pointer (some ⟨w.heap.size + 1, 1, none⟩), .int .i64 port, .bool false, undef, undef, undef, undef, undef, undef, .string host, .agg #[.string ⟨#[72, 111, 115, 116]⟩, .string host], .slice (some ⟨w.heap.size + 1 + 1 + 1 + 1, 0, none⟩) 1 1, .pointer (some ⟨w.heap.size + 1 + 1 + 1, 3, none⟩), .pointer (some ⟨w.heap.size + 1 + 1 + 1, 3, none⟩), .slice (some ⟨w.heap.size + 1 + 1 + 1 + 1, 0, none⟩) 1 1, .pointer (some ⟨w.heap.size, 3, none⟩), .slice A n c, .slice A2 N c2, .slice A3 4 c3, .slice A4 M c4, .slice A5 (1 + M) c5, .pointer (some ⟨w.heap.size + 1 + 1 + 1, 3, none⟩), .pointer (some ⟨w.heap.size + 1 + 1 + 1, 3, none⟩), .slice A5 (1 + M) c5, .pointer (some ⟨w.heap.size, 3, none⟩), .slice A n c, .pointer (some ⟨w.heap.size, 2, none⟩), .int .i64 m, undef, undef, undef, undef, undef, undef, undef], []⟩ _)
  · intro u hu
    obtain ⟨⟨hx, ht, ho, hh, hb⟩, hz⟩ := hu
    have c2 := hx.cell 2 rfl
    go_simp
  refine HT.take 6 (.string via) rfl (by kernel_rfl) (fun _ _ _ h => h) (Or.inl ⟨by rfl, ?_⟩) (?_ : HT _ _ _ _ _ _ _ ⟨#[.agg #[.string s, .string r, .int .i64 m, .slice A n c], .agg #[.string host, .int .i64 port, .string ⟨#[]⟩], .string via, .pointer (some ⟨w.heap.size, 0, none⟩), .pointer (some ⟨w.heap.size + 1, 0, none⟩), undef, .pointer (some ⟨w.heap.size + 1 + 1, 0, none⟩), .pointer (some ⟨w.heap.size + 1 + 1 + 1, 0, none⟩), .string host, .pointer (some ⟨w.heap.size, 0, none⟩), .string s, .pointer (some ⟨w.heap.size + 1, 2, none⟩), .string ⟨#[]⟩, .agg #[.string s, .string ⟨#[]⟩, .int .i64 1, .slice none 0 0], .pointer (some ⟨w.heap.size + 1, 2, none⟩), .string ⟨#[]⟩, .bool true, .pointer (some ⟨w.heap.size + 1 + 1 + 1, 1, none⟩), .pointer (some ⟨w.heap.size + 1, 0, none⟩), .string host, .pointer (some ⟨w.heap.size + 1, 1, none⟩), .int .i64 port, .bool false, undef, undef, undef, undef, undef, undef, .string host, .agg #[.string ⟨#[72, 111, 115, 116]⟩, .string host], .slice (some ⟨w.heap.size + 1 + 1 + 1 + 1, 0, none⟩) 1 1, .pointer (some ⟨w.heap.size + 1 + 1 + 1, 3, none⟩), .pointer (some ⟨w.heap.size + 1 + 1 + 1, 3, none⟩), .slice (some ⟨w.heap.size + 1 + 1 + 1 + 1, 0, none⟩) 1 1, .pointer (some ⟨w.heap.size, 3, none⟩), .slice A n c, .slice A2 N c2, .slice A3 4 c3, .slice A4 M c4, .slice A5 (1 + M) c5, .pointer (some ⟨w.heap.size + 1 + 1 + 1, 3, none⟩), .pointer (some ⟨w.heap.size + 1 + 1 + 1, 3, none⟩), .slice A5 (1 + M) c5, .pointer (some ⟨w.heap.size, 3, none⟩), .slice A n c, .pointer (some ⟨w.heap.size, 2, none⟩), .int .i64 m, .string via, undef, undef, undef, undef, undef, undef], []⟩ _)
  · intro u hu
    go_simp
  refine HT.step 7 rfl (by kernel_rfl) (fun hS K hK => ?_)
  go_simp
  refine (hV.out _ hS.1.2.2.2.2).mono ?_
  rintro e w10 ⟨rfl, hb10⟩
  refine hK.out _ _ ⟨hS.1.below hb10, hS.2.below hb10⟩ ?_
  clear hK hS hb10
  refine HT.take 8 (.agg #[.string ⟨#[86, 105, 97]⟩, .string V]) rfl (by kernel_rfl) (fun _ _ _ h => h) (Or.inl ⟨by rfl, ?_⟩) (?_ : HT _ _ _ _ _ _ _ ⟨#[.agg #[.string s, .string r, .int .i64 m, .slice A n c], .agg #[.string host, .int .i64 port, .string ⟨#[]⟩], .string via, .pointer (some ⟨w.heap.size, 0, none⟩), .pointer (some ⟨w.heap.size + 1, 0, none⟩), undef, .pointer (some ⟨w.heap.size + 1 + 1, 0, none⟩), .pointer (some ⟨w.heap.size + 1 + 1 + 1, 0, none⟩), .string host, .pointer (some ⟨w.heap.size, 0, none⟩), .string s, .pointer (some ⟨w.heap.size + 1, 2, none⟩), .string ⟨#[]⟩, .agg #[.string s, .string ⟨#[]⟩, .int .i64 1, .slice none 0 0], .pointer (some ⟨w.heap.size + 1, 2, none⟩), .string ⟨#[]⟩, .bool true, .pointer (some ⟨w.heap.size + 1 + 1 + 1, 1, none⟩), .pointer (some ⟨w.heap.size + 1, 0, none⟩), .string host, .pointer (some ⟨w.heap.size + 1, 1, none⟩), .int .i64 port, .bool false, undef, undef, undef, undef, undef, undef, .string host, .agg #[.string ⟨#[72, 111, 115, 116]⟩, .string host], .slice (some ⟨w.heap.size + 1 + 1 + 1 + 1, 0, none⟩) 1 1, .pointer (some ⟨w.heap.size + 1 + 1 + 1, 3, none⟩), .pointer (some ⟨w.heap.size + 1 + 1 + 1, 3, none⟩), .slice (some ⟨w.heap.size + 1 + 1 + 1 + 1, 0, none⟩) 1 1, .pointer (some ⟨w.heap.size, 3, none⟩), .slice A n c, .slice A2 N c2, .slice A3 4 c3, .slice A4 M c4, .slice A5 (1 + M) c5, .pointer (some ⟨w.heap.size + 1 + 1 + 1, 3, none⟩), .pointer (some ⟨w.heap.size + 1 + 1 + 1, 3, none⟩), .slice A5 (1 + M) c5, .pointer (some ⟨w.heap.size, 3, none⟩), .slice A n c, .pointer (some ⟨w.heap.size, 2, none⟩), .int .i64 m, .string via, .string V, .agg #[.string ⟨#[86, 105, 97]⟩, .string V], undef, undef, undef, undef], []⟩ _)
  · intro u hu
    go_simp
  refine HT.step 9 rfl (by kernel_rfl) (fun hS K hK => ?_)
  go_simp
  refine hK.out _ _ ⟨hS.1.below ((Below.refl _ _).alloc (Nat.le_refl _) _), hS.2.alloc _⟩ ?_
  clear hK hS
  refine HT.tail _ rfl rfl (by kernel_rfl) (fun hS => ?_)
  have HS10 := Lib.hid hS
  clear hS HT9 HR9 hS1
  have hz10 : w.heap.size + 4 ≤ w10.heap.size + 1 := by have := HS10.out.1.2.2.2.1.lt; rw [World.size_alloc] at this; omega
  refine appF _ rfl (.tmp 43) (.tmp 51) rfl (w.heap.size + 4) A5 (1 + M) c5 ([(F.hostN, host)] ++ U) rfl HS10.out.2 _ 1 1 [(F.via3, V)] rfl (newF _ (F.via3, V)) (by omega) (by rw [World.size_alloc]; omega) ?_
  intro A6 c6 w11 hr6 ha6
  have HS11 := Lib.hid (HS10.out.1.app ha6 HS10.out.2 (Nat.le_refl _) (by rw [World.size_alloc]; omega))
  have d3 := HS11.out.2.2.2.1.cell 3 (v := .slice A5 (1 + M) c5) rfl
  have g3 := HS11.out.2.2.2.1.free 3
  have HT11 : Hid (ReqR w #[.string s, .string r, .int .i64 m, .slice A n c] #[.string host, .int .i64 port, .string ⟨#[]⟩] #[.string ⟨#[]⟩, .string ⟨#[]⟩, .int .i64 0, .slice none 0 0] #[.string s, .string ⟨#[47]⟩, .int .i64 1, .slice A6 (1 + M + 1) c6] (w11.setCell ⟨w.heap.size + 1 + 1 + 1, 3, none⟩ (.slice A6 (1 + M + 1) c6))) := Lib.hid ⟨HS11.out.1.far (b' := w.heap.size + 1 + 1 + 1) 3 _ (by omega), HS11.out.2.1.far (b' := w.heap.size + 1 + 1 + 1) 3 _ (by omega), HS11.out.2.2.1.far (b' := w.heap.size + 1 + 1 + 1) 3 _ (by omega), HS11.out.2.2.2.1.set 3 _, below_set HS11.out.2.2.2.2 (b := w.heap.size + 1 + 1 + 1) (by omega) 3 _⟩
  have HR11 := Lib.hid (hr6.farT HS11.out.2.2.2.1 (by decide) 3 (.slice A6 (1 + M + 1) c6))
  obtain ⟨x0, x1, x2, x3⟩ := HT11.out.2.2.2.1.cells4
  obtain ⟨o0, o1, o2, o3⟩ := HT11.out.2.2.1.cells4
  obtain ⟨f0, f1, f2, f3⟩ := HT11.out.2.2.1.free4
  clear ha6 hr6 HS10 HS11
  go_wp2
  refine NoPanic.normal ?_
  clear d3 g3
  generalize w11.setCell ⟨w.heap.size + 1 + 1 + 1, 3, none⟩ (.slice A6 (1 + M + 1) c6) = w12 at *
  go_wp2
  have hk := HT11.out.2.2.1.set4 (.string s) (.string ⟨#[47]⟩) (.int .i64 1) (.slice A6 (1 + M + 1) c6)
  have hr := HR11.out.farT4 HT11.out.2.2.1 (by decide) (.string s) (.string ⟨#[47]⟩) (.int .i64 1) (.slice A6 (1 + M + 1) c6)
  have hb := below_four HT11.out.2.2.2.2 (b := w.heap.size + 1 + 1) (by omega) (.string s) (.string ⟨#[47]⟩) (.int .i64 1) (.slice A6 (1 + M + 1) c6)
  clear x0 x1 x2 x3 o0 o1 o2 o3 f0 f1 f2 f3 HT11 HR11
  generalize ((((w12.setCell ⟨w.heap.size + 1 + 1, 0, none⟩ (.string s)).setCell ⟨w.heap.size + 1 + 1, 1, none⟩ (.string ⟨#[47]⟩)).setCell ⟨w.heap.size + 1 + 1, 2, none⟩ (.int .i64 1)).setCell ⟨w.heap.size + 1 + 1, 3, none⟩ (.slice A6 (1 + M + 1) c6)) = W at *
  obtain ⟨d0, d1, d2, d3⟩ := hk.cells4
  refine bodyPost_ret (v := .agg #[.string s, .string ⟨#[47]⟩, .int .i64 1, .slice A6 (1 + M + 1) c6]) (by simp [results, Tryd.results36, go_sem, d0, d1, d2, d3]) rfl ?_
  rw [HPV.out]
  refine ⟨A6, c6, by rw [HPL.out], ?_, hb⟩
  rw [HPL.out, HPP.out]
  exact hr.mono (by omega)

set_option maxRecDepth 100000 in
set_option maxHeartbeats 2000000 in
theorem refRequest_ex (s r via host path I hv V : ByteArray) (m port : Int) (A : Option Addr) (n c N M : Nat) (T U P : List FD) (w : World)
    (hSt : Hid (∀ w1 : World, Below w.heap.size w w1 → Calls Tryd.prog 16 #[.slice A n c] w1 (RetRow w1 67 2 N (fcells T))))
    (hW : Hid (∀ (A1 : Option Addr) (c1 : Nat) (X : Option Addr) (d : Nat) (w1 : World), Rd w1 A1 N 2 (fcells T) → Rd w1 X 4 1 (scells F.four) → Calls Tryd.prog 47 #[.slice A1 N c1, .slice X 4 d] w1 (RetRow w1 67 2 M (fcells U))))
    (hV : Hid (∀ w1 : World, Below w.heap.size w w1 → Calls Tryd.prog 66 #[.slice A n c, .int .i64 m, .string via] w1 (RetS w1 V)))
    (hM : M ≤ 1099511627776) (HPL : Hid (P.length = 1 + M + 1)) (HPP : Hid (P = [(F.hostN, hv)] ++ U ++ [(F.via3, V)]))
    (HPV : Hid (F.pathOf path = ⟨#[47]⟩)) (hpe : path = ⟨#[]⟩)
    (hI : Hid (∀ w1 : World, Calls Tryd.prog 51 #[.int .i64 port] w1 (RetS w1 I))) (hIs : I.size ≤ 9223372036854775806) (hhs : host.size + (1 + I.size) ≤ 9223372036854775807) (hp : ¬ port = 80) (HHV : Hid (hv = host ++ (⟨#[58]⟩ ++ I))) :
    Calls Tryd.prog 36 #[.agg #[.string s, .string r, .int .i64 m, .slice A n c], .agg #[.string host, .int .i64 port, .string path], .string via] w (RetQ w s (F.pathOf path) 1 P) := by
  have hpp := HPP.out
  rw [HHV.out] at hpp
  clear HPP
  have HPP := Lib.hid hpp
  clear hpp
  have hpb : (port != 80) = true := by simpa using hp
  clear hp
  subst hpe
  go_enter Tryd.func36, Tryd.ntmps36
  go_wp2_with fail
  have HS4 := Lib.hid (ReqR.start w #[.string s, .string r, .int .i64 m, .slice A n c] #[.string host, .int .i64 port, .string ⟨#[]⟩] #[.string ⟨#[]⟩, .string ⟨#[]⟩, .int .i64 0, .slice none 0 0] #[.string s, .string ⟨#[47]⟩, .int .i64 1, .slice none 0 0])
  generalize ((((w.alloc (.cells #[.string s, .string r, .int .i64 m, .slice A n c] 50)).alloc (.cells #[.string host, .int .i64 port, .string ⟨#[]⟩] 52)).alloc (.cells #[.string ⟨#[]⟩, .string ⟨#[]⟩, .int .i64 0, .slice none 0 0] 50)).alloc (.cells #[.string s, .string ⟨#[47]⟩, .int .i64 1, .slice none 0 0] 50)) = w4 at *
  refine (hI.out _).mono ?_
  rintro e w5 ⟨rfl, hb5⟩
  have HS5 := Lib.hid ((HS4.out.below hb5).below ((Below.refl _ _).alloc (Nat.le_refl _) (.cells #[.string ⟨#[72, 111, 115, 116]⟩, .string (host ++ (⟨#[58]⟩ ++ I))] 67)))
  have hz5 : w.heap.size + 4 ≤ w5.heap.size := by have := (HS4.out.below hb5).2.2.2.1.lt; omega
  clear hb5 HS4
  have d3 := HS5.out.2.2.2.1.cell 3 (v := .slice none 0 0) rfl
  have g3 := HS5.out.2.2.2.1.free 3
  go_wp2
  clear d3 g3
  have HS7 : Hid (ReqR w #[.string s, .string r, .int .i64 m, .slice A n c] #[.string host, .int .i64 port, .string ⟨#[]⟩] #[.string ⟨#[]⟩, .string ⟨#[]⟩, .int .i64 0, .slice none 0 0] #[.string s, .string ⟨#[47]⟩, .int .i64 1, .slice (some ⟨w5.heap.size, 0, none⟩) 1 1] ((w5.alloc (.cells #[.string ⟨#[72, 111, 115, 116]⟩, .string (host ++ (⟨#[58]⟩ ++ I))] 67)).setCell ⟨w.heap.size + 1 + 1 + 1, 3, none⟩ (.slice (some ⟨w5.heap.size, 0, none⟩) 1 1))) := Lib.hid ⟨HS5.out.1.far (b' := w.heap.size + 1 + 1 + 1) 3 _ (by omega), HS5.out.2.1.far (b' := w.heap.size + 1 + 1 + 1) 3 _ (by omega), HS5.out.2.2.1.far (b' := w.heap.size + 1 + 1 + 1) 3 _ (by omega), HS5.out.2.2.2.1.set 3 _, below_set HS5.out.2.2.2.2 (b := w.heap.size + 1 + 1 + 1) (by omega) 3 _⟩
  have HR7 : Hid (Row ((w5.alloc (.cells #[.string ⟨#[72, 111, 115, 116]⟩, .string (host ++ (⟨#[58]⟩ ++ I))] 67)).setCell ⟨w.heap.size + 1 + 1 + 1, 3, none⟩ (.slice (some ⟨w5.heap.size, 0, none⟩) 1 1)) (w.heap.size + 4) 67 2 (some ⟨w5.heap.size, 0, none⟩) 1 1 (fcells [(F.hostN, (host ++ (⟨#[58]⟩ ++ I)))])) := Lib.hid ((newRow1 w5 (F.hostN, (host ++ (⟨#[58]⟩ ++ I))) (w.heap.size + 4) hz5).farT HS5.out.2.2.2.1 (by decide) 3 (.slice (some ⟨w5.heap.size, 0, none⟩) 1 1))
  clear HS5
  generalize ((w5.alloc (.cells #[.string ⟨#[72, 111, 115, 116]⟩, .string (host ++ (⟨#[58]⟩ ++ I))] 67)).setCell ⟨w.heap.size + 1 + 1 + 1, 3, none⟩ (.slice (some ⟨w5.heap.size, 0, none⟩) 1 1)) = w7 at *
  have hS0 : (ReqR w #[.string s, .string r, .int .i64 m, .slice A n c] #[.string host, .int .i64 port, .string ⟨#[]⟩] #[.string ⟨#[]⟩, .string ⟨#[]⟩, .int .i64 0, .slice none 0 0] #[.string s, .string ⟨#[47]⟩, .int .i64 1, .slice (some ⟨w5.heap.size, 0, none⟩) 1 1] w7.drew ∧ w7.heap.size ≤ w7.drew.heap.size ∧ Row w7.drew (w.heap.size + 4) 67 2 (some ⟨w5.heap.size, 0, none⟩) 1 1 (fcells [(F.hostN, (host ++ (⟨#[58]⟩ ++ I)))])) := ⟨HS7.out.below (Below.refl _ _).drew, Nat.le_refl _, HR7.out⟩
  refine wp_region_noPanic ?_
  refine HT.begin (n := 7) (S := fun u => ReqR w #[.string s, .string r, .int .i64 m, .slice A n c] #[.string host, .int .i64 port, .string ⟨#[]⟩] #[.string ⟨#[]⟩, .string ⟨#[]⟩, .int .i64 0, .slice none 0 0] #[.string s, .string ⟨#[47]⟩, .int .i64 1, .slice (some ⟨w5.heap.size, 0, none⟩) 1 1] u ∧ w7.heap.size ≤ u.heap.size ∧ Row u (w.heap.size + 4) 67 2 (some ⟨w5.heap.size, 0, none⟩) 1 1 (fcells [(F.hostN, (host ++ (⟨#[58]⟩ ++ I)))])) (by kernel_rfl) hS0 ?_
  refine HT.take 0 (.pointer (some ⟨w.heap.size + 1 + 1 + 1, 3, none⟩)) rfl (by kernel_rfl) (fun _ _ _ h => h) (Or.inl ⟨by rfl, ?_⟩) (?_ : HT _ _ _ _ _ _ _ ⟨#[.agg #[.string s, .string r, .int .i64 m, .slice A n c], .agg #[.string host, .int .i64 port, .string ⟨#[]⟩], .string via, .pointer (some ⟨w.heap.size, 0, none⟩), .pointer (some ⟨w.heap.size + 1, 0, none⟩), undef, .pointer (some ⟨w.heap.size + 1 + 1, 0, none⟩), .pointer (some ⟨w.heap.size + 1 + 1 + 1, 0, none⟩), .string (host ++ (⟨#[58]⟩ ++ I)), .pointer (some ⟨w.heap.size, 0, none⟩), .string s, .pointer (some ⟨w.heap.size + 1, 2, none⟩), .string ⟨#[]⟩, .agg #[.string s, .string ⟨#[]⟩, .int .i64 1, .slice none 0 0], .pointer (some ⟨w.heap.size + 1, 2, none⟩), .string ⟨#[]⟩, .bool true, .pointer (some ⟨w.heap.size + 1 + 1 + 1, 1, none⟩), .pointer (some ⟨w.heap.size + 1, 0, none⟩), .string host, .pointer (some ⟨w.heap.size + 1, 1, none⟩), .int .i64 port, .bool true, .string host, .pointer (some ⟨w.heap.size + 1, 1, none⟩), .int .i64 port, .string I, .string (⟨#[58]⟩ ++ I), .string (host ++ (⟨#[58]⟩ ++ I)), .string (host ++ (⟨#[58]⟩ ++ I)), .agg #[.string ⟨#[72, 111, 115, 116]⟩, .string (host ++ (⟨#[58]⟩ ++ I))], .slice (some ⟨w5.heap.size, 0, none⟩) 1 1, .pointer (some ⟨w.heap.size + 1 + 1 + 1, 3, none⟩), .pointer (some ⟨w.heap.size + 1 + 1 + 1, 3, none⟩), undef, undef, undef, undef, undef, undef, undef, undef, undef, undef, undef, undef, undef, undef, undef, undef, undef, undef, undef, undef, undef], []⟩ _)
  · intro u hu
    go_simp
  refine HT.take 1 (.slice (some ⟨w5.heap.size, 0, none⟩) 1 1) rfl (by kernel_rfl) (fun _ _ _ h => h) (Or.inl ⟨by rfl, ?_⟩) (?_ : HT _ _ _ _ _ _ _ ⟨#[.agg #[.string s, .string r, .int .i64 m, .slice A n c], .agg #[.string host, .int .i64 port, .string ⟨#[]⟩], .string via, .pointer (some ⟨w.heap.size, 0, none⟩), .pointer (some ⟨w.heap.size + 1, 0, none⟩), undef, .pointer (some ⟨w.heap.size + 1 + 1, 0, none⟩), .pointer (some ⟨w.heap.size + 1 + 1 + 1, 0, none⟩), .string (host ++ (⟨#[58]⟩ ++ I)), .pointer (some ⟨w.heap.size, 0, none⟩), .string s, .pointer (some ⟨w.heap.size + 1, 2, none⟩), .string ⟨#[]⟩, .agg #[.string s, .string ⟨#[]⟩, .int .i64 1, .slice none 0 0], .pointer (some ⟨w.heap.size + 1, 2, none⟩), .string ⟨#[]⟩, .bool true, .pointer (some ⟨w.heap.size + 1 + 1 + 1, 1, none⟩), .pointer (some ⟨w.heap.size + 1, 0, none⟩), .string host, .pointer (some ⟨w.heap.size + 1, 1, none⟩), .int .i64 port, .bool true, .string host, .pointer (some ⟨w.heap.size + 1, 1, none⟩), .int .i64 port, .string I, .string (⟨#[58]⟩ ++ I), .string (host ++ (⟨#[58]⟩ ++ I)), .string (host ++ (⟨#[58]⟩ ++ I)), .agg #[.string ⟨#[72, 111, 115, 116]⟩, .string (host ++ (⟨#[58]⟩ ++ I))], .slice (some ⟨w5.heap.size, 0, none⟩) 1 1, .pointer (some ⟨w.heap.size + 1 + 1 + 1, 3, none⟩), .pointer (some ⟨w.heap.size + 1 + 1 + 1, 3, none⟩), .slice (some ⟨w5.heap.size, 0, none⟩) 1 1, undef, undef, undef, undef, undef, undef, undef, undef, undef, undef, undef, undef, undef, undef, undef, undef, undef, undef, undef, undef], []⟩ _)
  · intro u hu
    obtain ⟨⟨hx, ht, ho, hh, hb⟩, hz⟩ := hu
    have c3 := hh.cell 3 rfl
    go_simp
  refine HT.take 2 (.pointer (some ⟨w.heap.size, 3, none⟩)) rfl (by kernel_rfl) (fun _ _ _ h => h) (Or.inl ⟨by rfl, ?_⟩) (?_ : HT _ _ _ _ _ _ _ ⟨#[.agg #[.string s, .string r, .int .i64 m, .slice A n c], .agg #[.string host, .int .i64 port, .string ⟨#[]⟩], .string via, .pointer (some ⟨w.heap.size, 0, none⟩), .pointer (some ⟨w.heap.size + 1, 0, none⟩), undef, .pointer (some ⟨w.heap.size + 1 + 1, 0, none⟩), .pointer (some ⟨w.heap.size + 1 + 1 + 1, 0, none⟩), .string (host ++ (⟨#[58]⟩ ++ I)), .pointer (some ⟨w.heap.size, 0, none⟩), .string s, .pointer (some ⟨w.heap.size + 1, 2, none⟩), .string ⟨#[]⟩, .agg #[.string s, .string ⟨#[]⟩, .int .i64 1, .slice none 0 0], .pointer (some ⟨w.heap.size + 1, 2, none⟩), .string ⟨#[]⟩, .bool true, .pointer (some ⟨w.heap.size + 1 + 1 + 1, 1, none⟩), .pointer (some ⟨w.heap.size + 1, 0, none⟩), .string host, .pointer (some ⟨w.heap.size + 1, 1, none⟩), .int .i64 port, .bool true, .string host, .pointer (some ⟨w.heap.size + 1, 1, none⟩), .int .i64 port, .string I, .string (⟨#[58]⟩ ++ I), .string (host ++ (⟨#[58]⟩ ++ I)), .string (host ++ (⟨#[58]⟩ ++ I)), .agg #[.string ⟨#[72, 111, 115, 116]⟩, .string (host ++ (⟨#[58]⟩ ++ I))], .slice (some ⟨w5.heap.size, 0, none⟩) 1 1, .pointer (some ⟨w.heap.size + 1 + 1 + 1, 3, none⟩), .pointer (some ⟨w.heap.size + 1 + 1 + 1, 3, none⟩), .slice (some ⟨w5.heap.size, 0, none⟩) 1 1, .pointer (some ⟨w.heap.size, 3, none⟩), undef, undef, undef, undef, undef, undef, undef, undef, undef, undef, undef, undef, undef, undef, undef, undef, undef, undef, undef], []⟩ _)
  · intro u hu
    go_simp
  refine HT.take 3 (.slice A n c) rfl (by kernel_rfl) (fun _ _ _ h => h) (Or.inl ⟨by rfl, ?_⟩) (?_ : HT _ _ _ _ _ _ _ ⟨#[.agg #[.string s, .string r, .int .i64 m, .slice A n c], .agg #[.string host, .int .i64 port, .string ⟨#[]⟩], .string via, .pointer (some ⟨w.heap.size, 0, none⟩), .pointer (some ⟨w.heap.size + 1, 0, none⟩), undef, .pointer (some ⟨w.heap.size + 1 + 1, 0, none⟩), .pointer (some ⟨w.heap.size + 1 + 1 + 1, 0, none⟩), .string (host ++ (⟨#[58]⟩ ++ I)), .pointer (some ⟨w.heap.size, 0, none⟩), .string s, .pointer (some ⟨w.heap.size + 1, 2, none⟩), .string ⟨#[]⟩, .agg #[.string s, .string ⟨#[]⟩, .int .i64 1, .slice none 0 0], .pointer (some ⟨w.heap.size + 1, 2, none⟩), .string ⟨#[]⟩, .bool true, .pointer (some ⟨w.heap.size + 1 + 1 + 1, 1, none⟩), .pointer (some ⟨w.heap.size + 1, 0, none⟩), .string host, .pointer (some ⟨w.heap.size + 1, 1, none⟩), .int .i64 port, .bool true, .string host, .pointer (some ⟨w.heap.size + 1, 1, none⟩), .int .i64 port, .string I, .string (⟨#[58]⟩ ++ I), .string (host ++ (⟨#[58]⟩ ++ I)), .string (host ++ (⟨#[58]⟩ ++ I)), .agg #[.string ⟨#[72, 111, 115, 116]⟩, .string (host ++ (⟨#[58]⟩ ++ I))], .slice (some ⟨w5.heap.size, 0, none⟩) 1 1, .pointer (some ⟨w.heap.size + 1 + 1 + 1, 3, none⟩), .pointer (some ⟨w.heap.size + 1 + 1 + 1, 3, none⟩), .slice (some ⟨w5.heap.size, 0, none⟩) 1 1, .pointer (some ⟨w.heap.size, 3, none⟩), .slice A n c, undef, undef, undef, undef, undef, undef, undef, undef, undef, undef, undef, undef, undef, undef, undef, undef, undef, undef], []⟩ _)
  · intro u hu
    obtain ⟨⟨hx, ht, ho, hh, hb⟩, hz⟩ := hu
    have c3 := hx.cell 3 rfl
    go_simp
  refine HT.block (f0 := 3) [4, 5, 6] (fun j v u => match j with | 4 => SlRow w.heap.size 67 2 N (fcells T) v u | 5 => SlRd 1 4 (scells F.four) v u | 6 => SlRow w.heap.size 67 2 M (fcells U) v u | _ => True) (fun vs => ⟨#[.agg #[.string s, .string r, .int .i64 m, .slice A n c], .agg #[.string host, .int .i64 port, .string ⟨#[]⟩], .string via, .pointer (some ⟨w.heap.size, 0, none⟩), .pointer (some ⟨w.heap.size + 1, 0, none⟩), undef, .pointer (some ⟨w.heap.size + 1 + 1, 0, none⟩), .pointer (some ⟨w.heap.size + 1 + 1 + 1, 0, none⟩), .string (host ++ (⟨#[58]⟩ ++ I)), .pointer (some ⟨w.heap.size, 0, none⟩), .string s, .pointer (some ⟨w.heap.size + 1, 2, none⟩), .string ⟨#[]⟩, .agg #[.string s, .string ⟨#[]⟩, .int .i64 1, .slice none 0 0], .pointer (some ⟨w.heap.size + 1, 2, none⟩), .string ⟨#[]⟩, .bool true, .pointer (some ⟨w.heap.size + 1 + 1 + 1, 1, none⟩), .pointer (some ⟨w.heap.size + 1, 0, none⟩), .string host, .pointer (some ⟨w.heap.size + 1, 1, none⟩), .int .i64 port, .bool true, .string host, .pointer (some ⟨w.heap.size + 1, 1, none⟩), .int .i64 port, .string I, .string (⟨#[58]⟩ ++ I), .string (host ++ (⟨#[58]⟩ ++ I)), .string (host ++ (⟨#[58]⟩ ++ I)), .agg #[.string ⟨#[72, 111, 115, 116]⟩, .string (host ++ (⟨#[58]⟩ ++ I))], .slice (some ⟨w5.heap.size, 0, none⟩) 1 1, .pointer (some ⟨w.heap.size + 1 + 1 + 1, 3, none⟩), .pointer (some ⟨w.heap.size + 1 + 1 + 1, 3, none⟩), .slice (some ⟨w5.heap.size, 0, none⟩) 1 1, .pointer (some ⟨w.heap.size, 3, none⟩), .slice A n c, vs 4, vs 5, vs 6, undef, undef, undef, undef, undef, undef, undef, undef, undef, undef, undef, undef, undef, undef, undef], []⟩) (fun _ => rfl) (by kernel_rfl) (fun u u' hb h => ⟨h.1.below hb, Nat.le_trans h.2.1 hb.size, h.2.2.below hb⟩) (fun j v u u' hb h => by revert h; split <;> intro h <;> first | exact h.below hb | trivial) (List.forall_mem_cons.2 ⟨⟨_, rfl, ?_⟩, List.forall_mem_cons.2 ⟨⟨_, rfl, ?_⟩, List.forall_mem_cons.2 ⟨⟨_, rfl, ?_⟩, fun _ h => by cases h⟩⟩⟩) ?_
  · intro vs u hS hd K hK
    go_simp
    refine (hSt.out u hS.1.2.2.2.2).mono ?_
    rintro e w8 ⟨A1, c1, rfl, hr, hb⟩
    exact hK.out (.slice A1 N c1) _ ⟨A1, c1, rfl, hr.mono hS.1.2.2.2.2.size⟩ hb
  · intro vs u hS hd K hK
    go_simp
    exact hK.out (.slice (some ⟨u.heap.size, 0, none⟩) 4 4) _ ⟨_, _, rfl, Rd.newRow _ _ _ 4 1 rfl⟩ ((Below.refl _ _).alloc (Nat.le_refl _) _)
  · intro vs u hS hd K hK
    obtain ⟨A1, c1, e1, hr1⟩ : SlRow w.heap.size 67 2 N (fcells T) (vs 4) u := hd 4 (by simp) (by kernel_rfl)
    obtain ⟨A2, c2, e2, hr2⟩ : SlRd 1 4 (scells F.four) (vs 5) u := hd 5 (by simp) (by kernel_rfl)
    have hc := hW.out A1 c1 A2 c2 u hr1.rd hr2
    rw [← e1, ← e2] at hc
    clear e1 e2 hd
    have HC := Lib.hid hc
    clear hc
    go_simp
    refine HC.out.mono ?_
    rintro e w8 ⟨A3, c3, rfl, hr, hb⟩
    exact hK.out (.slice A3 M c3) _ ⟨A3, c3, rfl, hr.mono hS.1.2.2.2.2.size⟩ hb
  intro vs u hS hR
  have hv37 := hR 4 (by simp)
  generalize vs 4 = v37 at *
  have hv38 := hR 5 (by simp)
  generalize vs 5 = v38 at *
  have hv39 := hR 6 (by simp)
  generalize vs 6 = v39 at *
  clear hR
  refine (?_ : HT _ _ _ _ _ _ _ ⟨#[.agg #[.string s, .string r, .int .i64 m, .slice A n c], .agg #[.string host, .int .i64 port, .string ⟨#[]⟩], .string via, .pointer (some ⟨w.heap.size, 0, none⟩), .pointer (some ⟨w.heap.size + 1, 0, none⟩), undef, .pointer (some ⟨w.heap.size + 1 + 1, 0, none⟩), .pointer (some ⟨w.heap.size + 1 + 1 + 1, 0, none⟩), .string (host ++ (⟨#[58]⟩ ++ I)), .pointer (some ⟨w.heap.size, 0, none⟩), .string s, .pointer (some ⟨w.heap.size + 1, 2, none⟩), .string ⟨#[]⟩, .agg #[.string s, .string ⟨#[]⟩, .int .i64 1, .slice none 0 0], .pointer (some ⟨w.heap.size + 1, 2, none⟩), .string ⟨#[]⟩, .bool true, .pointer (some ⟨w.heap.size + 1 + 1 + 1, 1, none⟩), .pointer (some ⟨w.heap.size + 1, 0, none⟩), .string host, .pointer (some ⟨w.heap.size + 1, 1, none⟩), .int .i64 port, .bool true, .string host, .pointer (some ⟨w.heap.size + 1, 1, none⟩), .int .i64 port, .string I, .string (⟨#[58]⟩ ++ I), .string (host ++ (⟨#[58]⟩ ++ I)), .string (host ++ (⟨#[58]⟩ ++ I)), .agg #[.string ⟨#[72, 111, 115, 116]⟩, .string (host ++ (⟨#[58]⟩ ++ I))], .slice (some ⟨w5.heap.size, 0, none⟩) 1 1, .pointer (some ⟨w.heap.size + 1 + 1 + 1, 3, none⟩), .pointer (some ⟨w.heap.size + 1 + 1 + 1, 3, none⟩), .slice (some ⟨w5.heap.size, 0, none⟩) 1 1, .pointer (some ⟨w.heap.size, 3, none⟩), .slice A n c, v37, v38, v39, undef, undef, undef, undef, undef, undef, undef, undef, undef, undef, undef, undef, undef, undef, undef], []⟩ _)
  obtain ⟨A2, c2, rfl, hr2⟩ := hv37
  obtain ⟨A3, c3, rfl, hr3⟩ := hv38
  obtain ⟨A4, c4, rfl, hr4⟩ := hv39
  clear hr2 hr3
  refine HT.tail _ rfl rfl (by kernel_rfl) (fun hS => ?_)
  have HS8 := Lib.hid hS
  clear hS
  have hz8 : w.heap.size + 4 ≤ u.heap.size := by have := HS8.out.1.2.2.2.1.lt; omega
  refine appF _ rfl (.tmp 34) (.tmp 39) rfl (w.heap.size + 4) (some ⟨w5.heap.size, 0, none⟩) 1 1 [(F.hostN, (host ++ (⟨#[58]⟩ ++ I)))] rfl HS8.out.2.2 A4 M c4 U rfl hr4.rd (by omega) hz8 ?_
  intro A5 c5 w8 hr5 ha5
  have HS9 := Lib.hid (HS8.out.1.app ha5 HS8.out.2.2 (Nat.le_refl _) hz8)
  have d3 := HS9.out.2.2.2.1.cell 3 (v := .slice (some ⟨w5.heap.size, 0, none⟩) 1 1) rfl
  have g3 := HS9.out.2.2.2.1.free 3
  have HT9 : Hid (ReqR w #[.string s, .string r, .int .i64 m, .slice A n c] #[.string host, .int .i64 port, .string ⟨#[]⟩] #[.string ⟨#[]⟩, .string ⟨#[]⟩, .int .i64 0, .slice none 0 0] #[.string s, .string ⟨#[47]⟩, .int .i64 1, .slice A5 (1 + M) c5] (w8.setCell ⟨w.heap.size + 1 + 1 + 1, 3, none⟩ (.slice A5 (1 + M) c5))) := Lib.hid ⟨HS9.out.1.far (b' := w.heap.size + 1 + 1 + 1) 3 _ (by omega), HS9.out.2.1.far (b' := w.heap.size + 1 + 1 + 1) 3 _ (by omega), HS9.out.2.2.1.far (b' := w.heap.size + 1 + 1 + 1) 3 _ (by omega), HS9.out.2.2.2.1.set 3 _, below_set HS9.out.2.2.2.2 (b := w.heap.size + 1 + 1 + 1) (by omega) 3 _⟩
  have HR9 := Lib.hid (hr5.farT HS9.out.2.2.2.1 (by decide) 3 (.slice A5 (1 + M) c5))
  clear hr4 ha5 hr5 HS8 HS9 HS7 HR7 hz8
  go_wp2
  refine NoPanic.normal ?_
  go_wp2
  clear d3 g3
  generalize w8.setCell ⟨w.heap.size + 1 + 1 + 1, 3, none⟩ (.slice A5 (1 + M) c5) = w9 at *
  have hS1 : (ReqR w #[.string s, .string r, .int .i64 m, .slice A n c] #[.string host, .int .i64 port, .string ⟨#[]⟩] #[.string ⟨#[]⟩, .string ⟨#[]⟩, .int .i64 0, .slice none 0 0] #[.string s, .string ⟨#[47]⟩, .int .i64 1, .slice A5 (1 + M) c5] w9.drew ∧ Row w9.drew (w.heap.size + 4) 67 2 A5 (1 + M) c5 (fcells ([(F.hostN, (host ++ (⟨#[58]⟩ ++ I)))] ++ U))) := ⟨HT9.out.below (Below.refl _ _).drew, HR9.out⟩
  refine wp_region_noPanic ?_
  refine HT.begin (n := 10) (S := fun u => ReqR w #[.string s, .string r, .int .i64 m, .slice A n c] #[.string host, .int .i64 port, .string ⟨#[]⟩] #[.string ⟨#[]⟩, .string ⟨#[]⟩, .int .i64 0, .slice none 0 0] #[.string s, .string ⟨#[47]⟩, .int .i64 1, .slice A5 (1 + M) c5] u ∧ Row u (w.heap.size + 4) 67 2 A5 (1 + M) c5 (fcells ([(F.hostN, (host ++ (⟨#[58]⟩ ++ I)))] ++ U))) (by kernel_rfl) hS1 ?_
  refine HT.take 0 (.pointer (some ⟨w.heap.size + 1 + 1 + 1, 3, none⟩)) rfl (by kernel_rfl) (fun _ _ _ h => h) (Or.inl ⟨by rfl, ?_⟩) (?_ : HT _ _ _ _ _ _ _ ⟨#[.agg #[.string s, .string r, .int .i64 m, .slice A n c], .agg #[.string host, .int .i64 port, .string ⟨#[]⟩], .string via, .pointer (some ⟨w.heap.size, 0, none⟩), .pointer (some ⟨w.heap.size + 1, 0, none⟩), undef, .pointer (some ⟨w.heap.size + 1 + 1, 0, none⟩), .pointer (some ⟨w.heap.size + 1 + 1 + 1, 0, none⟩), .string (host ++ (⟨#[58]⟩ ++ I)), .pointer (some ⟨w.heap.size, 0, none⟩), .string s, .pointer (some ⟨w.heap.size + 1, 2, none⟩), .string ⟨#[]⟩, .agg #[.string s, .string ⟨#[]⟩, .int .i64 1, .slice none 0 0], .pointer (some ⟨w.heap.size + 1, 2, none⟩), .string ⟨#[]⟩, .bool true, .pointer (some ⟨w.heap.size + 1 + 1 + 1, 1, none⟩), .pointer (some ⟨w.heap.size + 1, 0, none⟩), .string host, .pointer (some ⟨w.heap.size + 1, 1, none⟩), .int .i64 port, .bool true, .string host, .pointer (some ⟨w.heap.size + 1, 1, none⟩), .int .i64 port, .string I, .string (⟨#[58]⟩ ++ I), .string (host ++ (⟨#[58]⟩ ++ I)), .string (host ++ (⟨#[58]⟩ ++ I)), .agg #[.string ⟨#[72, 111, 115, 116]⟩, .string (host ++ (⟨#[58]⟩ ++ I))], .slice (some ⟨w5.heap.size, 0, none⟩) 1 1, .pointer (some ⟨w.heap.size + 1 + 1 + 1, 3, none⟩), .pointer (some ⟨w.heap.size + 1 + 1 + 1, 3, none⟩), .slice (some ⟨w5.heap.size, 0, none⟩) 1 1, .pointer (some ⟨w.heap.size, 3, none⟩), .slice A n c, .slice A2 N c2, .slice A3 4 c3, .slice A4 M c4, .slice A5 (1 + M) c5, .pointer (some ⟨w.heap.size + 1 + 1 + 1, 3, none⟩), .pointer (some ⟨w.heap.size + 1 + 1 + 1, 3, none⟩), undef, undef, undef, undef, undef, undef, undef, undef, undef, undef, undef, undef], []⟩ _)
  · intro u hu
    go_simp
  refine HT.take 1 (.slice A5 (1 + M) c5) rfl (by kernel_rfl) (fun _ _ _ h => h) (Or.inl ⟨by rfl, ?_⟩) (?_ : HT _ _ _ _ _ _ _ ⟨#[.agg #[.string s, .string r, .int .i64 m, .slice A n c], .agg #[.string host, .int .i64 port, .string ⟨#[]⟩], .string via, .pointer (some ⟨w.heap.size, 0, none⟩), .pointer (some ⟨w.heap.size + 1, 0, none⟩), undef, .pointer (some ⟨w.heap.size + 1 + 1, 0, none⟩), .pointer (some ⟨w.heap.size + 1 + 1 + 1, 0, none⟩), .string (host ++ (⟨#[58]⟩ ++ I)), .pointer (some ⟨w.heap.size, 0, none⟩), .string s, .pointer (some ⟨w.heap.size + 1, 2, none⟩), .string ⟨#[]⟩, .agg #[.string s, .string ⟨#[]⟩, .int .i64 1, .slice none 0 0], .pointer (some ⟨w.heap.size + 1, 2, none⟩), .string ⟨#[]⟩, .bool true, .pointer (some ⟨w.heap.size + 1 + 1 + 1, 1, none⟩), .pointer (some ⟨w.heap.size + 1, 0, none⟩), .string host, .pointer (some ⟨w.heap.size + 1, 1, none⟩), .int .i64 port, .bool true, .string host, .pointer (some ⟨w.heap.size + 1, 1, none⟩), .int .i64 port, .string I, .string (⟨#[58]⟩ ++ I), .string (host ++ (⟨#[58]⟩ ++ I)), .string (host ++ (⟨#[58]⟩ ++ I)), .agg #[.string ⟨#[72, 111, 115, 116]⟩, .string (host ++ (⟨#[58]⟩ ++ I))], .slice (some ⟨w5.heap.size, 0, none⟩) 1 1, .pointer (some ⟨w.heap.size + 1 + 1 + 1, 3, none⟩), .pointer (some ⟨w.heap.size + 1 + 1 + 1, 3, none⟩), .slice (some ⟨w5.heap.size, 0, none⟩) 1 1, .pointer (some ⟨w.heap.size, 3, none⟩), .slice A n c, .slice A2 N c2, .slice A3 4 c3, .slice A4 M c4, .slice A5 (1 + M) c5, .pointer (some ⟨w.heap.size + 1 + 1 + 1, 3, none⟩), .pointer (some ⟨w.heap.size + 1 + 1 + 1, 3, none⟩), .slice A5 (1 + M) c5, undef, undef, undef, undef, undef, undef, undef, undef, undef, undef, undef], []⟩ _)
  · intro u hu
    obtain ⟨⟨hx, ht, ho, hh, hb⟩, hz⟩ := hu
    have c3 := hh.cell 3 rfl
    go_simp
  refine HT.take 2 (.pointer (some ⟨w.heap.size, 3, none⟩)) rfl (by kernel_rfl) (fun _ _ _ h => h) (Or.inl ⟨by rfl, ?_⟩) (?_ : HT _ _ _ _ _ _ _ ⟨#[.agg #[.string s, .string r, .int .i64 m, .slice A n c], .agg #[.string host, .int .i64 port, .string ⟨#[]⟩], .string via, .pointer (some ⟨w.heap.size, 0, none⟩), .pointer (some ⟨w.heap.size + 1, 0, none⟩), undef, .pointer (some ⟨w.heap.size + 1 + 1, 0, none⟩), .pointer (some ⟨w.heap.size + 1 + 1 + 1, 0, none⟩), .string (host ++ (⟨#[58]⟩ ++ I)), .pointer (some ⟨w.heap.size, 0, none⟩), .string s, .pointer (some ⟨w.heap.size + 1, 2, none⟩), .string ⟨#[]⟩, .agg #[.string s, .string ⟨#[]⟩, .int .i64 1, .slice none 0 0], .pointer (some ⟨w.heap.size + 1, 2, none⟩), .string ⟨#[]⟩, .bool true, .pointer (some ⟨w.heap.size + 1 + 1 + 1, 1, none⟩), .pointer (some ⟨w.heap.size + 1, 0, none⟩), .string host, .pointer (some ⟨w.heap.size + 1, 1, none⟩), .int .i64 port, .bool true, .string host, .pointer (some ⟨w.heap.size + 1, 1, none⟩), .int .i64 port, .string I, .string (⟨#[58]⟩ ++ I), .string (host ++ (⟨#[58]⟩ ++ I)), .string (host ++ (⟨#[58]⟩ ++ I)), .agg #[.string ⟨#[72, 111, 115, 116]⟩, .string (host ++ (⟨#[58]⟩ ++ I))], .slice (some ⟨w5.heap.size, 0, none⟩) 1 1, .pointer (some ⟨w.heap.size + 1 + 1 + 1, 3, none⟩), .pointer (some ⟨w.heap.size + 1 + 1 + 1, 3, none⟩), .slice (some ⟨w5.heap.size, 0, none⟩) 1 1, .pointer (some ⟨w.heap.size, 3, none⟩), .slice A n c, .slice A2 N c2, .slice A3 4 c3, .slice A4 M c4, .slice A5 (1 + M) c5, .pointer (some ⟨w.heap.size + 1 + 1 + 1, 3, none⟩), .pointer (some ⟨w.heap.size + 1 + 1 + 1, 3, none⟩), .slice A5 (1 + M) c5, .pointer (some ⟨w.heap.size, 3, none⟩), undef, undef, undef, undef, undef, undef, undef, undef, undef, undef], []⟩ _)
  · intro u hu
    go_simp
  refine HT.take 3 (.slice A n c) rfl (by kernel_rfl) (fun _ _ _ h => h) (Or.inl ⟨by rfl, ?_⟩) (?_ : HT _ _ _ _ _ _ _ ⟨#[.agg #[.string s, .string r, .int .i64 m, .slice A n c], .agg #[.string host, .int .i64 port, .string ⟨#[]⟩], .string via, .pointer (some ⟨w.heap.size, 0, none⟩), .pointer (some ⟨w.heap.size + 1, 0, none⟩), undef, .pointer (some ⟨w.heap.size + 1 + 1, 0, none⟩), .pointer (some ⟨w.heap.size + 1 + 1 + 1, 0, none⟩), .string (host ++ (⟨#[58]⟩ ++ I)), .pointer (some ⟨w.heap.size, 0, none⟩), .string s, .pointer (some ⟨w.heap.size + 1, 2, none⟩), .string ⟨#[]⟩, .agg #[.string s, .string ⟨#[]⟩, .int .i64 1, .slice none 0 0], .pointer (some ⟨w.heap.size + 1, 2, none⟩), .string ⟨#[]⟩, .bool true, .pointer (some ⟨w.heap.size + 1 + 1 + 1, 1, none⟩), .pointer (some ⟨w.heap.size + 1, 0, none⟩), .string host, .pointer (some ⟨w.heap.size + 1, 1, none⟩), .int .i64 port, .bool true, .string host, .pointer (some ⟨w.heap.size + 1, 1, none⟩), .int .i64 port, .string I, .string (⟨#[58]⟩ ++ I), .string (host ++ (⟨#[58]⟩ ++ I)), .string (host ++ (⟨#[58]⟩ ++ I)), .agg #[.string ⟨#[72, 111, 115, 116]⟩, .string (host ++ (⟨#[58]⟩ ++ I))], .slice (some ⟨w5.heap.size, 0, none⟩) 1 1, .pointer (some ⟨w.heap.size + 1 + 1 + 1, 3, none⟩), .pointer (some ⟨w.heap.size + 1 + 1 + 1, 3, none⟩), .slice (some ⟨w5.heap.size, 0, none⟩) 1 1, .pointer (some ⟨w.heap.size, 3, none⟩), .slice A n c, .slice A2 N c2, .slice A3 4 c3, .slice A4 M c4, .slice A5 (1 + M) c5, .pointer (some ⟨w.heap.size + 1 + 1 + 1, 3, none⟩), .pointer (some ⟨w.heap.size + 1 + 1 + 1, 3, none⟩), .slice A5 (1 + M) c5, .pointer (some ⟨w.heap.size, 3, none⟩), .slice A n c, undef, undef, undef, undef, undef, undef, undef, undef, undef], []⟩ _)
  · intro u hu
    obtain ⟨⟨hx, ht, ho, hh, hb⟩, hz⟩ := hu
    have c3 := hx.cell 3 rfl
    go_simp
  refine HT.take 4 (.pointer (some ⟨w.heap.size, 2, none⟩)) rfl (by kernel_rfl) (fun _ _ _ h => h) (Or.inl ⟨by rfl, ?_⟩) (?_ : HT _ _ _ _ _ _ _ ⟨#[.agg #[.string s, .string r, .int .i64 m, .slice A n c], .agg #[.string host, .int .i64 port, .string ⟨#[]⟩], .string via, .pointer (some ⟨w.heap.size, 0, none⟩), .pointer (some ⟨w.heap.size + 1, 0, none⟩), undef, .pointer (some ⟨w.heap.size + 1 + 1, 0, none⟩), .pointer (some ⟨w.heap.size + 1 + 1 + 1, 0, none⟩), .string (host ++ (⟨#[58]⟩ ++ I)), .pointer (some ⟨w.heap.size, 0, none⟩), .string s, .pointer (some ⟨w.heap.size + 1, 2, none⟩), .string ⟨#[]⟩, .agg #[.string s, .string ⟨#[]⟩, .int .i64 1, .slice none 0 0], .pointer (some ⟨w.heap.size + 1, 2, none⟩), .string ⟨#[]⟩, .bool true, .pointer (some ⟨w.heap.size + 1 + 1 + 1, 1, none⟩), .pointer (some ⟨w.heap.size + 1, 0, none⟩), .string host, .pointer (some ⟨w.heap.size + 1, 1, none⟩), .int .i64 port, .bool true, .string host, .pointer (some ⟨w.heap.size + 1, 1, none⟩), .int .i64 port, .string I, .string (⟨#[58]⟩ ++ I), .string (host ++ (⟨#[58]⟩ ++ I)), .string (host ++ (⟨#[58]⟩ ++ I)), .agg #[.string ⟨#[72, 111, 115, 116]⟩, .string (host ++ (⟨#[58]⟩ ++ I))], .slice (some ⟨w5.heap.size, 0, none⟩) 1 1, .pointer (some ⟨w.heap.size + 1 + 1 + 1, 3, none⟩), .pointer (some ⟨w.heap.size + 1 + 1 + 1, 3, none⟩), .slice (some ⟨w5.heap.size, 0, none⟩) 1 1, .pointer (some ⟨w.heap.size, 3, none⟩), .slice A n c, .slice A2 N c2, .slice A3 4 c3, .slice A4 M c4, .slice A5 (1 + M) c5, .pointer (some ⟨w.heap.size + 1 + 1 + 1, 3, none⟩), .pointer (some ⟨w.heap.size + 1 + 1 + 1, 3, none⟩), .slice A5 (1 + M) c5, .pointer (some ⟨w.heap.size, 3, none⟩), .slice A n c, .pointer (some ⟨w.heap.size, 2, none⟩), undef, undef, undef, undef, undef, undef, undef, undef], []⟩ _)
  · intro u hu
    go_simp
  refine HT.take 5 (.int .i64 m) rfl (by kernel_rfl) (fun _ _ _ h => h) (Or.inl ⟨by rfl, ?_⟩) (?_ : HT _ _ _ _ _ _ _ ⟨#[.agg #[.string s, .string r, .int .i64 m, .slice A n c], .agg #[.string host, .int .i64 port, .string ⟨#[]⟩], .string via, .pointer (some ⟨w.heap.size, 0, none⟩), .pointer (some ⟨w.heap.size + 1, 0, none⟩), undef, .pointer (some ⟨w.heap.size + 1 + 1, 0, none⟩), .pointer (some ⟨w.heap.size + 1 + 1 + 1, 0, none⟩), .string (host ++ (⟨#[58]⟩ ++ I)), .pointer (some ⟨w.heap.size, 0, none⟩), .string s, .pointer (some ⟨w.heap.size + 1, 2, none⟩), .string ⟨#[]⟩, .agg #[.string s, .string ⟨#[]⟩, .int .i64 1, .slice none 0 0], .pointer (some ⟨w.heap.size + 1, 2, none⟩), .string ⟨#[]⟩, .bool true, .pointer (some ⟨w.heap.size + 1 + 1 + 1, 1, none⟩), .pointer (some ⟨w.heap.size + 1, 0, none⟩), .string host, .pointer (some ⟨w.heap.size + 1, 1, none⟩), .int .i64 port, .bool true, .string host, .pointer (some ⟨w.heap.size + 1, 1, none⟩), .int .i64 port, .string I, .string (⟨#[58]⟩ ++ I), .string (host ++ (⟨#[58]⟩ ++ I)), .string (host ++ (⟨#[58]⟩ ++ I)), .agg #[.string ⟨#[72, 111, 115, 116]⟩, .string (host ++ (⟨#[58]⟩ ++ I))], .slice (some ⟨w5.heap.size, 0, none⟩) 1 1, .pointer (some ⟨w.heap.size + 1 + 1 + 1, 3, none⟩), .pointer (some ⟨w.heap.size + 1 + 1 + 1, 3, none⟩), .slice (some ⟨w5.heap.size, 0, none⟩) 1 1, .pointer (some ⟨w.heap.size, 3, none⟩), .slice A n c, .slice A2 N c2, .slice A3 4 c3, .slice A4 M c4, .slice A5 (1 + M) c5, .pointer (some ⟨w.heap.size + 1 + 1 + 1, 3, none⟩), .pointer (some ⟨w.heap.size + 1 + 1 + 1, 3, none⟩), .slice A5 (1 + M) c5, .pointer (some ⟨w.heap.size, 3, none⟩), .slice A n c, .pointer (some ⟨w.heap.size, 2, none⟩), .int .i64 m, undef, undef, undef, undef, undef, undef, undef], []⟩ _)
  · intro u hu
    obtain ⟨⟨hx, ht, ho, hh, hb⟩, hz⟩ := hu
    have c2 := hx.cell 2 rfl
    go_simp
  refine HT.take 6 (.string via) rfl (by kernel_rfl) (fun _ _ _ h => h) (Or.inl ⟨by rfl, ?_⟩) (?_ : HT _ _ _ _ _ _ _ ⟨#[.agg #[.string s, .string r, .int .i64 m, .slice A n c], .agg #[.string host, .int .i64 port, .string ⟨#[]⟩], .string via, .pointer (some ⟨w.heap.size, 0, none⟩), .pointer (some ⟨w.heap.size + 1, 0, none⟩), undef, .pointer (some ⟨w.heap.size + 1 + 1, 0, none⟩), .pointer (some ⟨w.heap.size + 1 + 1 + 1, 0, none⟩), .string (host ++ (⟨#[58]⟩ ++ I)), .pointer (some ⟨w.heap.size, 0, none⟩), .string s, .pointer (some ⟨w.heap.size + 1, 2, none⟩), .string ⟨#[]⟩, .agg #[.string s, .string ⟨#[]⟩, .int .i64 1, .slice none 0 0], .pointer (some ⟨w.heap.size + 1, 2, none⟩), .string ⟨#[]⟩, .bool true, .pointer (some ⟨w.heap.size + 1 + 1 + 1, 1, none⟩), .pointer (some ⟨w.heap.size + 1, 0, none⟩), .string host, .pointer (some ⟨w.heap.size + 1, 1, none⟩), .int .i64 port, .bool true, .string host, .pointer (some ⟨w.heap.size + 1, 1, none⟩), .int .i64 port, .string I, .string (⟨#[58]⟩ ++ I), .string (host ++ (⟨#[58]⟩ ++ I)), .string (host ++ (⟨#[58]⟩ ++ I)), .agg #[.string ⟨#[72, 111, 115, 116]⟩, .string (host ++ (⟨#[58]⟩ ++ I))], .slice (some ⟨w5.heap.size, 0, none⟩) 1 1, .pointer (some ⟨w.heap.size + 1 + 1 + 1, 3, none⟩), .pointer (some ⟨w.heap.size + 1 + 1 + 1, 3, none⟩), .slice (some ⟨w5.heap.size, 0, none⟩) 1 1, .pointer (some ⟨w.heap.size, 3, none⟩), .slice A n c, .slice A2 N c2, .slice A3 4 c3, .slice A4 M c4, .slice A5 (1 + M) c5, .pointer (some ⟨w.heap.size + 1 + 1 + 1, 3, none⟩), .pointer (some ⟨w.heap.size + 1 + 1 + 1, 3, none⟩), .slice A5 (1 + M) c5, .pointer (some ⟨w.heap.size, 3, none⟩), .slice A n c, .pointer (some ⟨w.heap.size, 2, none⟩), .int .i64 m, .string via, undef, undef, undef, undef, undef, undef], []⟩ _)
  · intro u hu
    go_simp
  refine HT.step 7 rfl (by kernel_rfl) (fun hS K hK => ?_)
  go_simp
  refine (hV.out _ hS.1.2.2.2.2).mono ?_
  rintro e w10 ⟨rfl, hb10⟩
  refine hK.out _ _ ⟨hS.1.below hb10, hS.2.below hb10⟩ ?_
  clear hK hS hb10
  refine HT.take 8 (.agg #[.string ⟨#[86, 105, 97]⟩, .string V]) rfl (by kernel_rfl) (fun _ _ _ h => h) (Or.inl ⟨by rfl, ?_⟩) (?_ : HT _ _ _ _ _ _ _ ⟨#[.agg #[.string s, .string r, .int .i64 m, .slice A n c], .agg #[.string host, .int .i64 port, .string ⟨#[]⟩], .string via, .pointer (some ⟨w.heap.size, 0, none⟩), .pointer (some ⟨w.heap.size + 1, 0, none⟩), undef, .pointer (some ⟨w.heap.size + 1 + 1, 0, none⟩), .pointer (some ⟨w.heap.size + 1 + 1 + 1, 0, none⟩), .string (host ++ (⟨#[58]⟩ ++ I)), .pointer (some ⟨w.heap.size, 0, none⟩), .string s, .pointer (some ⟨w.heap.size + 1, 2, none⟩), .string ⟨#[]⟩, .agg #[.string s, .string ⟨#[]⟩, .int .i64 1, .slice none 0 0], .pointer (some ⟨w.heap.size + 1, 2, none⟩), .string ⟨#[]⟩, .bool true, .pointer (some ⟨w.heap.size + 1 + 1 + 1, 1, none⟩), .pointer (some ⟨w.heap.size + 1, 0, none⟩), .string host, .pointer (some ⟨w.heap.size + 1, 1, none⟩), .int .i64 port, .bool true, .string host, .pointer (some ⟨w.heap.size + 1, 1, none⟩), .int .i64 port, .string I, .string (⟨#[58]⟩ ++ I), .string (host ++ (⟨#[58]⟩ ++ I)), .string (host ++ (⟨#[58]⟩ ++ I)), .agg #[.string ⟨#[72, 111, 115, 116]⟩, .string (host ++ (⟨#[58]⟩ ++ I))], .slice (some ⟨w5.heap.size, 0, none⟩) 1 1, .pointer (some ⟨w.heap.size + 1 + 1 + 1, 3, none⟩), .pointer (some ⟨w.heap.size + 1 + 1 + 1, 3, none⟩), .slice (some ⟨w5.heap.size, 0, none⟩) 1 1, .pointer (some ⟨w.heap.size, 3, none⟩), .slice A n c, .slice A2 N c2, .slice A3 4 c3, .slice A4 M c4, .slice A5 (1 + M) c5, .pointer (some ⟨w.heap.size + 1 + 1 + 1, 3, none⟩), .pointer (some ⟨w.heap.size + 1 + 1 + 1, 3, none⟩), .slice A5 (1 + M) c5, .pointer (some ⟨w.heap.size, 3, none⟩), .slice A n c, .pointer (some ⟨w.heap.size, 2, none⟩), .int .i64 m, .string via, .string V, .agg #[.string ⟨#[86, 105, 97]⟩, .string V], undef, undef, undef, undef], []⟩ _)
  · intro u hu
    go_simp
  refine HT.step 9 rfl (by kernel_rfl) (fun hS K hK => ?_)
  go_simp
  refine hK.out _ _ ⟨hS.1.below ((Below.refl _ _).alloc (Nat.le_refl _) _), hS.2.alloc _⟩ ?_
  clear hK hS
  refine HT.tail _ rfl rfl (by kernel_rfl) (fun hS => ?_)
  have HS10 := Lib.hid hS
  clear hS HT9 HR9 hS1
  have hz10 : w.heap.size + 4 ≤ w10.heap.size + 1 := by have := HS10.out.1.2.2.2.1.lt; rw [World.size_alloc] at this; omega
  refine appF _ rfl (.tmp 43) (.tmp 51) rfl (w.heap.size + 4) A5 (1 + M) c5 ([(F.hostN, (host ++ (⟨#[58]⟩ ++ I)))] ++ U) rfl HS10.out.2 _ 1 1 [(F.via3, V)] rfl (newF _ (F.via3, V)) (by omega) (by rw [World.size_alloc]; omega) ?_
  intro A6 c6 w11 hr6 ha6
  have HS11 := Lib.hid (HS10.out.1.app ha6 HS10.out.2 (Nat.le_refl _) (by rw [World.size_alloc]; omega))
  have d3 := HS11.out.2.2.2.1.cell 3 (v := .slice A5 (1 + M) c5) rfl
  have g3 := HS11.out.2.2.2.1.free 3
  have HT11 : Hid (ReqR w #[.string s, .string r, .int .i64 m, .slice A n c] #[.string host, .int .i64 port, .string ⟨#[]⟩] #[.string ⟨#[]⟩, .string ⟨#[]⟩, .int .i64 0, .slice none 0 0] #[.string s, .string ⟨#[47]⟩, .int .i64 1, .slice A6 (1 + M + 1) c6] (w11.setCell ⟨w.heap.size + 1 + 1 + 1, 3, none⟩ (.slice A6 (1 + M + 1) c6))) := Lib.hid ⟨HS11.out.1.far (b' := w.heap.size + 1 + 1 + 1) 3 _ (by omega), HS11.out.2.1.far (b' := w.heap.size + 1 + 1 + 1) 3 _ (by omega), HS11.out.2.2.1.far (b' := w.heap.size + 1 + 1 + 1) 3 _ (by omega), HS11.out.2.2.2.1.set 3 _, below_set HS11.out.2.2.2.2 (b := w.heap.size + 1 + 1 + 1) (by omega) 3 _⟩
  have HR11 := Lib.hid (hr6.farT HS11.out.2.2.2.1 (by decide) 3 (.slice A6 (1 + M + 1) c6))
  obtain ⟨x0, x1, x2, x3⟩ := HT11.out.2.2.2.1.cells4
  obtain ⟨o0, o1, o2, o3⟩ := HT11.out.2.2.1.cells4
  obtain ⟨f0, f1, f2, f3⟩ := HT11.out.2.2.1.free4
  clear ha6 hr6 HS10 HS11
  go_wp2
  refine NoPanic.normal ?_
  clear d3 g3
  generalize w11.setCell ⟨w.heap.size + 1 + 1 + 1, 3, none⟩ (.slice A6 (1 + M + 1) c6) = w12 at *
  go_wp2
  have hk := HT11.out.2.2.1.set4 (.string s) (.string ⟨#[47]⟩) (.int .i64 1) (.slice A6 (1 + M + 1) c6)
  have hr := HR11.out.farT4 HT11.out.2.2.1 (by decide) (.string s) (.string ⟨#[47]⟩) (.int .i64 1) (.slice A6 (1 + M + 1) c6)
  have hb := below_four HT11.out.2.2.2.2 (b := w.heap.size + 1 + 1) (by omega) (.string s) (.string ⟨#[47]⟩) (.int .i64 1) (.slice A6 (1 + M + 1) c6)
  clear x0 x1 x2 x3 o0 o1 o2 o3 f0 f1 f2 f3 HT11 HR11
  generalize ((((w12.setCell ⟨w.heap.size + 1 + 1, 0, none⟩ (.string s)).setCell ⟨w.heap.size + 1 + 1, 1, none⟩ (.string ⟨#[47]⟩)).setCell ⟨w.heap.size + 1 + 1, 2, none⟩ (.int .i64 1)).setCell ⟨w.heap.size + 1 + 1, 3, none⟩ (.slice A6 (1 + M + 1) c6)) = W at *
  obtain ⟨d0, d1, d2, d3⟩ := hk.cells4
  refine bodyPost_ret (v := .agg #[.string s, .string ⟨#[47]⟩, .int .i64 1, .slice A6 (1 + M + 1) c6]) (by simp [results, Tryd.results36, go_sem, d0, d1, d2, d3]) rfl ?_
  rw [HPV.out]
  refine ⟨A6, c6, by rw [HPL.out], ?_, hb⟩
  rw [HPL.out, HPP.out]
  exact hr.mono (by omega)

set_option maxRecDepth 100000 in
set_option maxHeartbeats 2000000 in
theorem refRequest_p80 (s r via host path _I hv V : ByteArray) (m port : Int) (A : Option Addr) (n c N M : Nat) (T U P : List FD) (w : World)
    (hSt : Hid (∀ w1 : World, Below w.heap.size w w1 → Calls Tryd.prog 16 #[.slice A n c] w1 (RetRow w1 67 2 N (fcells T))))
    (hW : Hid (∀ (A1 : Option Addr) (c1 : Nat) (X : Option Addr) (d : Nat) (w1 : World), Rd w1 A1 N 2 (fcells T) → Rd w1 X 4 1 (scells F.four) → Calls Tryd.prog 47 #[.slice A1 N c1, .slice X 4 d] w1 (RetRow w1 67 2 M (fcells U))))
    (hV : Hid (∀ w1 : World, Below w.heap.size w w1 → Calls Tryd.prog 66 #[.slice A n c, .int .i64 m, .string via] w1 (RetS w1 V)))
    (hM : M ≤ 1099511627776) (HPL : Hid (P.length = 1 + M + 1)) (HPP : Hid (P = [(F.hostN, hv)] ++ U ++ [(F.via3, V)]))
    (HPV : Hid (F.pathOf path = path)) (hpe : ¬ path = ⟨#[]⟩) (hp : port = 80) (HHV : Hid (hv = host)) :
    Calls Tryd.prog 36 #[.agg #[.string s, .string r, .int .i64 m, .slice A n c], .agg #[.string host, .int .i64 port, .string path], .string via] w (RetQ w s (F.pathOf path) 1 P) := by
  have hpp := HPP.out
  rw [HHV.out] at hpp
  clear HPP
  have HPP := Lib.hid hpp
  clear hpp
  have hpb : (port != 80) = false := by rw [hp]; rfl
  clear hp
  have he1 : ¬ path.toList = [] := fun h => hpe (toList_inj.1 (h.trans (by simp)))
  have he2 : path.toList.isEmpty = false := by cases h : path.toList <;> simp_all
  clear hpe
  go_enter Tryd.func36, Tryd.ntmps36
  go_wp2
  have HS7 := Lib.hid ((ReqR.start w #[.string s, .string r, .int .i64 m, .slice A n c] #[.string host, .int .i64 port, .string path] #[.string ⟨#[]⟩, .string ⟨#[]⟩, .int .i64 0, .slice none 0 0] #[.string s, .string path, .int .i64 1, .slice (some ⟨w.heap.size + 1 + 1 + 1 + 1, 0, none⟩) 1 1]).below ((Below.refl _ _).alloc (Nat.le_refl _) (.cells #[.string ⟨#[72, 111, 115, 116]⟩, .string host] 67)))
  have hr7 : Row (((((w.alloc (.cells #[.string s, .string r, .int .i64 m, .slice A n c] 50)).alloc (.cells #[.string host, .int .i64 port, .string path] 52)).alloc (.cells #[.string ⟨#[]⟩, .string ⟨#[]⟩, .int .i64 0, .slice none 0 0] 50)).alloc (.cells #[.string s, .string path, .int .i64 1, .slice (some ⟨w.heap.size + 1 + 1 + 1 + 1, 0, none⟩) 1 1] 50)).alloc (.cells #[.string ⟨#[72, 111, 115, 116]⟩, .string host] 67)) (w.heap.size + 4) 67 2 (some ⟨w.heap.size + 1 + 1 + 1 + 1, 0, none⟩) 1 1 (fcells [(F.hostN, host)]) := by
    have := newRow1 ((((w.alloc (.cells #[.string s, .string r, .int .i64 m, .slice A n c] 50)).alloc (.cells #[.string host, .int .i64 port, .string path] 52)).alloc (.cells #[.string ⟨#[]⟩, .string ⟨#[]⟩, .int .i64 0, .slice none 0 0] 50)).alloc (.cells #[.string s, .string path, .int .i64 1, .slice (some ⟨w.heap.size + 1 + 1 + 1 + 1, 0, none⟩) 1 1] 50)) (F.hostN, host) (w.heap.size + 4) (by simp only [World.size_alloc]; omega)
    simp only [World.size_alloc] at this
    exact this
  have HR7 := Lib.hid hr7
  clear hr7
  generalize (((((w.alloc (.cells #[.string s, .string r, .int .i64 m, .slice A n c] 50)).alloc (.cells #[.string host, .int .i64 port, .string path] 52)).alloc (.cells #[.string ⟨#[]⟩, .string ⟨#[]⟩, .int .i64 0, .slice none 0 0] 50)).alloc (.cells #[.string s, .string path, .int .i64 1, .slice (some ⟨w.heap.size + 1 + 1 + 1 + 1, 0, none⟩) 1 1] 50)).alloc (.cells #[.string ⟨#[72, 111, 115, 116]⟩, .string host] 67)) = w7 at *
  have hS0 : (ReqR w #[.string s, .string r, .int .i64 m, .slice A n c] #[.string host, .int .i64 port, .string path] #[.string ⟨#[]⟩, .string ⟨#[]⟩, .int .i64 0, .slice none 0 0] #[.string s, .string path, .int .i64 1, .slice (some ⟨w.heap.size + 1 + 1 + 1 + 1, 0, none⟩) 1 1] w7.drew ∧ w7.heap.size ≤ w7.drew.heap.size ∧ Row w7.drew (w.heap.size + 4) 67 2 (some ⟨w.heap.size + 1 + 1 + 1 + 1, 0, none⟩) 1 1 (fcells [(F.hostN, host)])) := ⟨HS7.out.below (Below.refl _ _).drew, Nat.le_refl _, HR7.out⟩
  refine wp_region_noPanic ?_
  refine HT.begin (n := 7) (S := fun u => ReqR w #[.string s, .string r, .int .i64 m, .slice A n c] #[.string host, .int .i64 port, .string path] #[.string ⟨#[]⟩, .string ⟨#[]⟩, .int .i64 0, .slice none 0 0] #[.string s, .string path, .int .i64 1, .slice (some ⟨w.heap.size + 1 + 1 + 1 + 1, 0, none⟩) 1 1] u ∧ w7.heap.size ≤ u.heap.size ∧ Row u (w.heap.size + 4) 67 2 (some ⟨w.heap.size + 1 + 1 + 1 + 1, 0, none⟩) 1 1 (fcells [(F.hostN, host)])) (by kernel_rfl) hS0 ?_
  refine HT.take 0 (.pointer (some ⟨w.heap.size + 1 + 1 + 1, 3, none⟩)) rfl (by kernel_rfl) (fun _ _ _ h => h) (Or.inl ⟨by rfl, ?_⟩) (?_ : HT _ _ _ _ _ _ _ ⟨#[.agg #[.string s, .string r, .int .i64 m, .slice A n c], .agg #[.string host, .int .i64 port, .string path], .string via, .pointer (some ⟨w.heap.size, 0, none⟩), .pointer (some ⟨w.heap.size + 1, 0, none⟩), undef, .pointer (some ⟨w.heap.size + 1 + 1, 0, none⟩), .pointer (some ⟨w.heap.size + 1 + 1 + 1, 0, none⟩), .string host, .pointer (some ⟨w.heap.size, 0, none⟩), .string s, .pointer (some ⟨w.heap.size + 1, 2, none⟩), .string path, .agg #[.string s, .string path, .int .i64 1, .slice none 0 0], .pointer (some ⟨w.heap.size + 1, 2, none⟩), .string path, .bool false, undef, .pointer (some ⟨w.heap.size + 1, 0, none⟩), .string host, .pointer (some ⟨w.heap.size + 1, 1, none⟩), .int .i64 port, .bool false, undef, undef, undef, undef, undef, undef, .string host, .agg #[.string ⟨#[72, 111, 115, 116]⟩, .string host], .slice (some ⟨w.heap.size + 1 + 1 + 1 + 1, 0, none⟩) 1 1, .pointer (some ⟨w.heap.size + 1 + 1 + 1, 3, none⟩), .pointer (some ⟨w.heap.size + 1 + 1 + 1, 3, none⟩), undef, undef, undef, undef, undef, undef, undef, undef, undef, undef, undef, undef, undef, undef, undef, undef, undef, undef, undef, undef, undef], []⟩ _)
  · intro u hu
    go_simp
  refine HT.take 1 (.slice (some ⟨w.heap.size + 1 + 1 + 1 + 1, 0, none⟩) 1 1) rfl (by kernel_rfl) (fun _ _ _ h => h) (Or.inl ⟨by rfl, ?_⟩) (?_ : HT _ _ _ _ _ _ _ ⟨#[.agg #[.string s, .string r, .int .i64 m, .slice A n c], .agg #[.string host, .int .i64 port, .string path], .string via, .pointer (some ⟨w.heap.size, 0, none⟩), .pointer (some ⟨w.heap.size + 1, 0, none⟩), undef, .pointer (some ⟨w.heap.size + 1 + 1, 0, none⟩), .pointer (some ⟨w.heap.size + 1 + 1 + 1, 0, none⟩), .string host, .pointer (some ⟨w.heap.size, 0, none⟩), .string s, .pointer (some ⟨w.heap.size + 1, 2, none⟩), .string path, .agg #[.string s, .string path, .int .i64 1, .slice none 0 0], .pointer (some ⟨w.heap.size + 1, 2, none⟩), .string path, .bool false, undef, .pointer (some ⟨w.heap.size + 1, 0, none⟩), .string host, .pointer (some ⟨w.heap.size + 1, 1, none⟩), .int .i64 port, .bool false, undef, undef, undef, undef, undef, undef, .string host, .agg #[.string ⟨#[72, 111, 115, 116]⟩, .string host], .slice (some ⟨w.heap.size + 1 + 1 + 1 + 1, 0, none⟩) 1 1, .pointer (some ⟨w.heap.size + 1 + 1 + 1, 3, none⟩), .pointer (some ⟨w.heap.size + 1 + 1 + 1, 3, none⟩), .slice (some ⟨w.heap.size + 1 + 1 + 1 + 1, 0, none⟩) 1 1, undef, undef, undef, undef, undef, undef, undef, undef, undef, undef, undef, undef, undef, undef, undef, undef, undef, undef, undef, undef], []⟩ _)
  · intro u hu
    obtain ⟨⟨hx, ht, ho, hh, hb⟩, hz⟩ := hu
    have c3 := hh.cell 3 rfl
    go_simp
  refine HT.take 2 (.pointer (some ⟨w.heap.size, 3, none⟩)) rfl (by kernel_rfl) (fun _ _ _ h => h) (Or.inl ⟨by rfl, ?_⟩) (?_ : HT _ _ _ _ _ _ _ ⟨#[.agg #[.string s, .string r, .int .i64 m, .slice A n c], .agg #[.string host, .int .i64 port, .string path], .string via, .pointer (some ⟨w.heap.size, 0, none⟩), .pointer (some ⟨w.heap.size + 1, 0, none⟩), undef, .pointer (some ⟨w.heap.size + 1 + 1, 0, none⟩), .pointer (some ⟨w.heap.size + 1 + 1 + 1, 0, none⟩), .string host, .pointer (some ⟨w.heap.size, 0, none⟩), .string s, .pointer (some ⟨w.heap.size + 1, 2, none⟩), .string path, .agg #[.string s, .string path, .int .i64 1, .slice none 0 0], .pointer (some ⟨w.heap.size + 1, 2, none⟩), .string path, .bool false, undef, .pointer (some ⟨w.heap.size + 1, 0, none⟩), .string host, .pointer (some ⟨w.heap.size + 1, 1, none⟩), .int .i64 port, .bool false, undef, undef, undef, undef, undef, undef, .string host, .agg #[.string ⟨#[72, 111, 115, 116]⟩, .string host], .slice (some ⟨w.heap.size + 1 + 1 + 1 + 1, 0, none⟩) 1 1, .pointer (some ⟨w.heap.size + 1 + 1 + 1, 3, none⟩), .pointer (some ⟨w.heap.size + 1 + 1 + 1, 3, none⟩), .slice (some ⟨w.heap.size + 1 + 1 + 1 + 1, 0, none⟩) 1 1, .pointer (some ⟨w.heap.size, 3, none⟩), undef, undef, undef, undef, undef, undef, undef, undef, undef, undef, undef, undef, undef, undef, undef, undef, undef, undef, undef], []⟩ _)
  · intro u hu
    go_simp
  refine HT.take 3 (.slice A n c) rfl (by kernel_rfl) (fun _ _ _ h => h) (Or.inl ⟨by rfl, ?_⟩) (?_ : HT _ _ _ _ _ _ _ ⟨#[.agg #[.string s, .string r, .int .i64 m, .slice A n c], .agg #[.string host, .int .i64 port, .string path], .string via, .pointer (some ⟨w.heap.size, 0, none⟩), .pointer (some ⟨w.heap.size + 1, 0, none⟩), undef, .pointer (some ⟨w.heap.size + 1 + 1, 0, none⟩), .pointer (some ⟨w.heap.size + 1 + 1 + 1, 0, none⟩), .string host, .pointer (some ⟨w.heap.size, 0, none⟩), .string s, .pointer (some ⟨w.heap.size + 1, 2, none⟩), .string path, .agg #[.string s, .string path, .int .i64 1, .slice none 0 0], .pointer (some ⟨w.heap.size + 1, 2, none⟩), .string path, .bool false, undef, .pointer (some ⟨w.heap.size + 1, 0, none⟩), .string host, .pointer (some ⟨w.heap.size + 1, 1, none⟩), .int .i64 port, .bool false, undef, undef, undef, undef, undef, undef, .string host, .agg #[.string ⟨#[72, 111, 115, 116]⟩, .string host], .slice (some ⟨w.heap.size + 1 + 1 + 1 + 1, 0, none⟩) 1 1, .pointer (some ⟨w.heap.size + 1 + 1 + 1, 3, none⟩), .pointer (some ⟨w.heap.size + 1 + 1 + 1, 3, none⟩), .slice (some ⟨w.heap.size + 1 + 1 + 1 + 1, 0, none⟩) 1 1, .pointer (some ⟨w.heap.size, 3, none⟩), .slice A n c, undef, undef, undef, undef, undef, undef, undef, undef, undef, undef, undef, undef, undef, undef, undef, undef, undef, undef], []⟩ _)
  · intro u hu
    obtain ⟨⟨hx, ht, ho, hh, hb⟩, hz⟩ := hu
    have c3 := hx.cell 3 rfl
    go_simp
  refine HT.block (f0 := 3) [4, 5, 6] (fun j v u => match j with | 4 => SlRow w.heap.size 67 2 N (fcells T) v u | 5 => SlRd 1 4 (scells F.four) v u | 6 => SlRow w.heap.size 67 2 M (fcells U) v u | _ => True) (fun vs => ⟨#[.agg #[.string s, .string r, .int .i64 m, .slice A n c], .agg #[.string host, .int .i64 port, .string path], .string via, .pointer (some ⟨w.heap.size, 0, none⟩), .pointer (some ⟨w.heap.size + 1, 0, none⟩), undef, .pointer (some ⟨w.heap.size + 1 + 1, 0, none⟩), .pointer (some ⟨w.heap.size + 1 + 1 + 1, 0, none⟩), .string host, .pointer (some ⟨w.heap.size, 0, none⟩), .string s, .pointer (some ⟨w.heap.size + 1, 2, none⟩), .string path, .agg #[.string s, .string path, .int .i64 1, .slice none 0 0], .pointer (some ⟨w.heap.size + 1, 2, none⟩), .string path, .bool false, undef, .pointer (some ⟨w.heap.size + 1, 0, none⟩), .string host, .pointer (some ⟨w.heap.size + 1, 1, none⟩), .int .i64 port, .bool false, undef, undef, undef, undef, undef, undef, .string host, .agg #[.string ⟨#[72, 111, 115, 116]⟩, .string host], .slice (some ⟨w.heap.size + 1 + 1 + 1 + 1, 0, none⟩) 1 1, .pointer (some ⟨w.heap.size + 1 + 1 + 1, 3, none⟩), .pointer (some ⟨w.heap.size + 1 + 1 + 1, 3, none⟩), .slice (some ⟨w.heap.size + 1 + 1 + 1 + 1, 0, none⟩) 1 1, .pointer (some ⟨w.heap.size, 3, none⟩), .slice A n c, vs 4, vs 5, vs 6, undef, undef, undef, undef, undef, undef, undef, undef, undef, undef, undef, undef, undef, undef, undef], []⟩) (fun _ => rfl) (by kernel_rfl) (fun u u' hb h => ⟨h.1.below hb, Nat.le_trans h.2.1 hb.size, h.2.2.below hb⟩) (fun j v u u' hb h => by revert h; split <;> intro h <;> first | exact h.below hb | trivial) (List.forall_mem_cons.2 ⟨⟨_, rfl, ?_⟩, List.forall_mem_cons.2 ⟨⟨_, rfl, ?_⟩, List.forall_mem_cons.2 ⟨⟨_, rfl, ?_⟩, fun _ h => by cases h⟩⟩⟩) ?_
  · intro vs u hS hd K hK
    go_simp
    refine (hSt.out u hS.1.2.2.2.2).mono ?_
    rintro e w8 ⟨A1, c1, rfl, hr, hb⟩
    exact hK.out (.slice A1 N c1) _ ⟨A1, c1, rfl, hr.mono hS.1.2.2.2.2.size⟩ hb
  · intro vs u hS hd K hK
    go_simp
    exact hK.out (.slice (some ⟨u.heap.size, 0, none⟩) 4 4) _ ⟨_, _, rfl, Rd.newRow _ _ _ 4 1 rfl⟩ ((Below.refl _ _).alloc (Nat.le_refl _) _)
  · intro vs u hS hd K hK
    obtain ⟨A1, c1, e1, hr1⟩ : SlRow w.heap.size 67 2 N (fcells T) (vs 4) u := hd 4 (by simp) (by kernel_rfl)
    obtain ⟨A2, c2, e2, hr2⟩ : SlRd 1 4 (scells F.four) (vs 5) u := hd 5 (by simp) (by kernel_rfl)
    have hc := hW.out A1 c1 A2 c2 u hr1.rd hr2
    rw [← e1, ← e2] at hc
    clear e1 e2 hd
    have HC := Lib.hid hc
    clear hc
    go_simp
    refine HC.out.mono ?_
    rintro e w8 ⟨A3, c3, rfl, hr, hb⟩
    exact hK.out (.slice A3 M c3) _ ⟨A3, c3, rfl, hr.mono hS.1.2.2.2.2.size⟩ hb
  intro vs u hS hR
  have hv37 := hR 4 (by simp)
  generalize vs 4 = v37 at *
  have hv38 := hR 5 (by simp)
  generalize vs 5 = v38 at *
  have hv39 := hR 6 (by simp)
  generalize vs 6 = v39 at *
  clear hR
  refine (?_ : HT _ _ _ _ _ _ _ ⟨#[.agg #[.string s, .string r, .int .i64 m, .slice A n c], .agg #[.string host, .int .i64 port, .string path], .string via, .pointer (some ⟨w.heap.size, 0, none⟩), .pointer (some ⟨w.heap.size + 1, 0, none⟩), undef, .pointer (some ⟨w.heap.size + 1 + 1, 0, none⟩), .pointer (some ⟨w.heap.size + 1 + 1 + 1, 0, none⟩), .string host, .pointer (some ⟨w.heap.size, 0, none⟩), .string s, .pointer (some ⟨w.heap.size + 1, 2, none⟩), .string path, .agg #[.string s, .string path, .int .i64 1, .slice none 0 0], .pointer (some ⟨w.heap.size + 1, 2, none⟩), .string path, .bool false, undef, .pointer (some ⟨w.heap.size + 1, 0, none⟩), .string host, .pointer (some ⟨w.heap.size + 1, 1, none⟩), .int .i64 port, .bool false, undef, undef, undef, undef, undef, undef, .string host, .agg #[.string ⟨#[72, 111, 115, 116]⟩, .string host], .slice (some ⟨w.heap.size + 1 + 1 + 1 + 1, 0, none⟩) 1 1, .pointer (some ⟨w.heap.size + 1 + 1 + 1, 3, none⟩), .pointer (some ⟨w.heap.size + 1 + 1 + 1, 3, none⟩), .slice (some ⟨w.heap.size + 1 + 1 + 1 + 1, 0, none⟩) 1 1, .pointer (some ⟨w.heap.size, 3, none⟩), .slice A n c, v37, v38, v39, undef, undef, undef, undef, undef, undef, undef, undef, undef, undef, undef, undef, undef, undef, undef], []⟩ _)
  obtain ⟨A2, c2, rfl, hr2⟩ := hv37
  obtain ⟨A3, c3, rfl, hr3⟩ := hv38
  obtain ⟨A4, c4, rfl, hr4⟩ := hv39
  clear hr2 hr3
  refine HT.tail _ rfl rfl (by kernel_rfl) (fun hS => ?_)
  have HS8 := Lib.hid hS
  clear hS
  have hz8 : w.heap.size + 4 ≤ u.heap.size := by have := HS8.out.1.2.2.2.1.lt; omega
  refine appF _ rfl (.tmp 34) (.tmp 39) rfl (w.heap.size + 4) (some ⟨w.heap.size + 1 + 1 + 1 + 1, 0, none⟩) 1 1 [(F.hostN, host)] rfl HS8.out.2.2 A4 M c4 U rfl hr4.rd (by omega) hz8 ?_
  intro A5 c5 w8 hr5 ha5
  have HS9 := Lib.hid (HS8.out.1.app ha5 HS8.out.2.2 (Nat.le_refl _) hz8)
  have d3 := HS9.out.2.2.2.1.cell 3 (v := .slice (some ⟨w.heap.size + 1 + 1 + 1 + 1, 0, none⟩) 1 1) rfl
  have g3 := HS9.out.2.2.2.1.free 3
  have HT9 : Hid (ReqR w #[.string s, .string r, .int .i64 m, .slice A n c] #[.string host, .int .i64 port, .string path] #[.string ⟨#[]⟩, .string ⟨#[]⟩, .int .i64 0, .slice none 0 0] #[.string s, .string path, .int .i64 1, .slice A5 (1 + M) c5] (w8.setCell ⟨w.heap.size + 1 + 1 + 1, 3, none⟩ (.slice A5 (1 + M) c5))) := Lib.hid ⟨HS9.out.1.far (b' := w.heap.size + 1 + 1 + 1) 3 _ (by omega), HS9.out.2.1.far (b' := w.heap.size + 1 + 1 + 1) 3 _ (by omega), HS9.out.2.2.1.far (b' := w.heap.size + 1 + 1 + 1) 3 _ (by omega), HS9.out.2.2.2.1.set 3 _, below_set HS9.out.2.2.2.2 (b := w.heap.size + 1 + 1 + 1) (by omega) 3 _⟩
  have HR9 := Lib.hid (hr5.farT HS9.out.2.2.2.1 (by decide) 3 (.slice A5 (1 + M) c5))
  clear hr4 ha5 hr5 HS8 HS9 HS7 HR7 hz8
  go_wp2
  refine NoPanic.normal ?_
  go_wp2
  clear d3 g3
  generalize w8.setCell ⟨w.heap.size + 1 + 1 + 1, 3, none⟩ (.slice A5 (1 + M) c5) = w9 at *
  have hS1 : (ReqR w #[.string s, .string r, .int .i64 m, .slice A n c] #[.string host, .int .i64 port, .string path] #[.string ⟨#[]⟩, .string ⟨#[]⟩, .int .i64 0, .slice none 0 0] #[.string s, .string path, .int .i64 1, .slice A5 (1 + M) c5] w9.drew ∧ Row w9.drew (w.heap.size + 4) 67 2 A5 (1 + M) c5 (fcells ([(F.hostN, host)] ++ U))) := ⟨HT9.out.below (Below.refl _ _).drew, HR9.out⟩
  refine wp_region_noPanic ?_
  refine HT.begin (n := 10) (S := fun u => ReqR w #[.string s, .string r, .int .i64 m, .slice A n c] #[.string host, .int .i64 port, .string path] #[.string ⟨#[]⟩, .string ⟨#[]⟩, .int .i64 0, .slice none 0 0] #[.string s, .string path, .int .i64 1, .slice A5 (1 + M) c5] u ∧ Row u (w.heap.size + 4) 67 2 A5 (1 + M) c5 (fcells ([(F.hostN, host)] ++ U))) (by kernel_rfl) hS1 ?_
  refine HT.take 0 (.pointer (some ⟨w.heap.size + 1 + 1 + 1, 3, none⟩)) rfl (by kernel_rfl) (fun _ _ _ h => h) (Or.inl ⟨by rfl, ?_⟩) (?_ : HT _ _ _ _ _ _ _ ⟨#[.agg #[.string s, .string r, .int .i64 m, .slice A n c], .agg #[.string host, .int .i64 port, .string path], .string via, .pointer (some ⟨w.heap.size, 0, none⟩), .pointer (some ⟨w.heap.size + 1, 0, none⟩), undef, .pointer (some ⟨w.heap.size + 1 + 1, 0, none⟩), .pointer (some ⟨w.heap.size + 1 + 1 + 1, 0, none⟩), .string host, .pointer (some ⟨w.heap.size, 0, none⟩), .string s, .pointer (some ⟨w.heap.size + 1, 2, none⟩), .string path, .agg #[.string s, .string path, .int .i64 1, .slice none 0 0], .pointer (some ⟨w.heap.size + 1, 2, none⟩), .string path, .bool false, undef, .pointer (some ⟨w.heap.size + 1, 0, none⟩), .string host, .pointer (some ⟨w.heap.size + 1, 1, none⟩), .int .i64 port, .bool false, undef, undef, undef, undef, undef, undef, .string host, .agg #[.string ⟨#[72, 111, 115, 116]⟩, .string host], .slice (some ⟨w.heap.size + 1 + 1 + 1 + 1, 0, none⟩) 1 1, .pointer (some ⟨w.heap.size + 1 + 1 + 1, 3, none⟩), .pointer (some ⟨w.heap.size + 1 + 1 + 1, 3, none⟩), .slice (some ⟨w.heap.size + 1 + 1 + 1 + 1, 0, none⟩) 1 1, .pointer (some ⟨w.heap.size, 3, none⟩), .slice A n c, .slice A2 N c2, .slice A3 4 c3, .slice A4 M c4, .slice A5 (1 + M) c5, .pointer (some ⟨w.heap.size + 1 + 1 + 1, 3, none⟩), .pointer (some ⟨w.heap.size + 1 + 1 + 1, 3, none⟩), undef, undef, undef, undef, undef, undef, undef, undef, undef, undef, undef, undef], []⟩ _)
  · intro u hu
    go_simp
  refine HT.take 1 (.slice A5 (1 + M) c5) rfl (by kernel_rfl) (fun _ _ _ h => h) (Or.inl ⟨by rfl, ?_⟩) (?_ : HT _ _ _ _ _ _ _ ⟨#[.agg #[.string s, .string r, .int .i64 m, .slice A n c], .agg #[.string host, .int .i64 port, .string path], .string via, .pointer (some ⟨w.heap.size, 0, none⟩), .pointer (some ⟨w.heap.size + 1, 0, none⟩), undef, .pointer (some ⟨w.heap.size + 1 + 1, 0, none⟩), .pointer (some ⟨w.heap.size + 1 + 1 + 1, 0, none⟩), .string host, .pointer (some ⟨w.heap.size, 0, none⟩), .string s, .pointer (some ⟨w.heap.size + 1, 2, none⟩), .string path, .agg #[.string s, .string path, .int .i64 1, .slice none 0 0], .pointer (some ⟨w.heap.size + 1, 2, none⟩), .string path, .bool false, undef, .pointer (some ⟨w.heap.size + 1, 0, none⟩), .string host, .pointer (some ⟨w.heap.size + 1, 1, none⟩), .int .i64 port, .bool false, undef, undef, undef, undef, undef, undef, .string host, .agg #[.string ⟨#[72, 111, 115, 116]⟩, .string host], .slice (some ⟨w.heap.size + 1 + 1 + 1 + 1, 0, none⟩) 1 1, .pointer (some ⟨w.heap.size + 1 + 1 + 1, 3, none⟩), .pointer (some ⟨w.heap.size + 1 + 1 + 1, 3, none⟩), .slice (some ⟨w.heap.size + 1 + 1 + 1 + 1, 0, none⟩) 1 1, .pointer (some ⟨w.heap.size, 3, none⟩), .slice A n c, .slice A2 N c2, .slice A3 4 c3, .slice A4 M c4, .slice A5 (1 + M) c5, .pointer (some ⟨w.heap.size + 1 + 1 + 1, 3, none⟩), .pointer (some ⟨w.heap.size + 1 + 1 + 1, 3, none⟩), .slice A5 (1 + M) c5, undef, undef, undef, undef, undef, undef, undef, undef, undef, undef, undef], []⟩ _)
  · intro u hu
    obtain ⟨⟨hx, ht, ho, hh, hb⟩, hz⟩ := hu
    have c3 := hh.cell 3 rfl
    go_simp
  refine HT.take 2 (.pointer (some ⟨w.heap.size, 3, none⟩)) rfl (by kernel_rfl) (fun _ _ _ h => h) (Or.inl ⟨by rfl, ?_⟩) (?_ : HT _ _ _ _ _ _ _ ⟨#[.agg #[.string s, .string r, .int .i64 m, .slice A n c], .agg #[.string host, .int .i64 port, .string path], .string via, .pointer (some ⟨w.heap.size, 0, none⟩), .pointer (some ⟨w.heap.size + 1, 0, none⟩), undef, .pointer (some ⟨w.heap.size + 1 + 1, 0, none⟩), .pointer (some ⟨w.heap.size + 1 + 1 + 1, 0, none⟩), .string host, .pointer (some ⟨w.heap.size, 0, none⟩), .string s, .pointer (some ⟨w.heap.size + 1, 2, none⟩), .string path, .agg #[.string s, .string path, .int .i64 1, .slice none 0 0], .pointer (some ⟨w.heap.size + 1, 2, none⟩), .string path, .bool false, undef, .pointer (some ⟨w.heap.size + 1, 0, none⟩), .string host, .pointer (some ⟨w.heap.size + 1, 1, none⟩), .int .i64 port, .bool false, undef, undef, undef, undef, undef, undef, .string host, .agg #[.string ⟨#[72, 111, 115, 116]⟩, .string host], .slice (some ⟨w.heap.size + 1 + 1 + 1 + 1, 0, none⟩) 1 1, .pointer (some ⟨w.heap.size + 1 + 1 + 1, 3, none⟩), .pointer (some ⟨w.heap.size + 1 + 1 + 1, 3, none⟩), .slice (some ⟨w.heap.size + 1 + 1 + 1 + 1, 0, none⟩) 1 1, .pointer (some ⟨w.heap.size, 3, none⟩), .slice A n c, .slice A2 N c2, .slice A3 4 c3, .slice A4 M c4, .slice A5 (1 + M) c5, .pointer (some ⟨w.heap.size + 1 + 1 + 1, 3, none⟩), .pointer (some ⟨w.heap.size + 1 + 1 + 1, 3, none⟩), .slice A5 (1 + M) c5, .pointer (some ⟨w.heap.size, 3, none⟩), undef, undef, undef, undef, undef, undef, undef, undef, undef, undef], []⟩ _)
  · intro u hu
    go_simp
  refine HT.take 3 (.slice A n c) rfl (by kernel_rfl) (fun _ _ _ h => h) (Or.inl ⟨by rfl, ?_⟩) (?_ : HT _ _ _ _ _ _ _ ⟨#[.agg #[.string s, .string r, .int .i64 m, .slice A n c], .agg #[.string host, .int .i64 port, .string path], .string via, .pointer (some ⟨w.heap.size, 0, none⟩), .pointer (some ⟨w.heap.size + 1, 0, none⟩), undef, .pointer (some ⟨w.heap.size + 1 + 1, 0, none⟩), .pointer (some ⟨w.heap.size + 1 + 1 + 1, 0, none⟩), .string host, .pointer (some ⟨w.heap.size, 0, none⟩), .string s, .pointer (some ⟨w.heap.size + 1, 2, none⟩), .string path, .agg #[.string s, .string path, .int .i64 1, .slice none 0 0], .pointer (some ⟨w.heap.size + 1, 2, none⟩), .string path, .bool false, undef, .pointer (some ⟨w.heap.size + 1, 0, none⟩), .string host, .pointer (some ⟨w.heap.size + 1, 1, none⟩), .int .i64 port, .bool false, undef, undef, undef, undef, undef, undef, .string host, .agg #[.string ⟨#[72, 111, 115, 116]⟩, .string host], .slice (some ⟨w.heap.size + 1 + 1 + 1 + 1, 0, none⟩) 1 1, .pointer (some ⟨w.heap.size + 1 + 1 + 1, 3, none⟩), .pointer (some ⟨w.heap.size + 1 + 1 + 1, 3, none⟩), .slice (some ⟨w.heap.size + 1 + 1 + 1 + 1, 0, none⟩) 1 1, .pointer (some ⟨w.heap.size, 3, none⟩), .slice A n c, .slice A2 N c2, .slice A3 4 c3, .slice A4 M c4, .slice A5 (1 + M) c5, .pointer (some ⟨w.heap.size + 1 + 1 + 1, 3, none⟩), .pointer (some ⟨w.heap.size + 1 + 1 + 1, 3, none⟩), .slice A5 (1 + M) c5, .pointer (some ⟨w.heap.size, 3, none⟩), .slice A n c, undef, undef, undef, undef, undef, undef, undef, undef, undef], []⟩ _)
  · intro u hu
    obtain ⟨⟨hx, ht, ho, hh, hb⟩, hz⟩ := hu
    have c3 := hx.cell 3 rfl
    go_simp
  refine HT.take 4 (.pointer (some ⟨w.heap.size, 2, none⟩)) rfl (by kernel_rfl) (fun _ _ _ h => h) (Or.inl ⟨by rfl, ?_⟩) (?_ : HT _ _ _ _ _ _ _ ⟨#[.agg #[.string s, .string r, .int .i64 m, .slice A n c], .agg #[.string host, .int .i64 port, .string path], .string via, .pointer (some ⟨w.heap.size, 0, none⟩), .pointer (some ⟨w.heap.size + 1, 0, none⟩), undef, .pointer (some ⟨w.heap.size + 1 + 1, 0, none⟩), .pointer (some ⟨w.heap.size + 1 + 1 + 1, 0, none⟩), .string host, .pointer (some ⟨w.heap.size, 0, none⟩), .string s, .pointer (some ⟨w.heap.size + 1, 2, none⟩), .string path, .agg #[.string s, .string path, .int .i64 1, .slice none 0 0], .pointer (some ⟨w.heap.size + 1, 2, none⟩), .string path, .bool false, undef, .pointer (some ⟨w.heap.size + 1, 0, none⟩), .string host, .pointer (some ⟨w.heap.size + 1, 1, none⟩), .int .i64 port, .bool false, undef, undef, undef, undef, undef, undef, .string host, .agg #[.string ⟨#[72, 111, 115, 116]⟩, .string host], .slice (some ⟨w.heap.size + 1 + 1 + 1 + 1, 0, none⟩) 1 1, .pointer (some ⟨w.heap.size + 1 + 1 + 1, 3, none⟩), .pointer (some ⟨w.heap.size + 1 + 1 + 1, 3, none⟩), .slice (some ⟨w.heap.size + 1 + 1 + 1 + 1, 0, none⟩) 1 1, .pointer (some ⟨w.heap.size, 3, none⟩), .slice A n c, .slice A2 N c2, .slice A3 4 c3, .slice A4 M c4, .slice A5 (1 + M) c5, .pointer (some ⟨w.heap.size + 1 + 1 + 1, 3, none⟩), .pointer (some ⟨w.heap.size + 1 + 1 + 1, 3, none⟩), .slice A5 (1 + M) c5, .pointer (some ⟨w.heap.size, 3, none⟩), .slice A n c, .pointer (some ⟨w.heap.size, 2, none⟩), undef, undef, undef, undef, undef, undef, undef, undef], []⟩ _)
  · intro u hu
    go_simp
  refine HT.take 5 (.int .i64 m) rfl (by kernel_rfl) (fun _ _ _ h => h) (Or.inl ⟨by rfl, ?_⟩) (?_ : HT _ _ _ _ _ _ _ ⟨#[.agg #[.string s, .string r, .int .i64 m, .slice A n c], .agg #[.string host, .int .i64 port, .string path], .string via, .pointer (some ⟨w.heap.size, 0, none⟩), .pointer (some ⟨w.heap.size + 1, 0, none⟩), undef, .pointer (some ⟨w.heap.size + 1 + 1, 0, none⟩), .pointer (some ⟨w.heap.size + 1 + 1 + 1, 0, none⟩), .string host, .pointer (some ⟨w.heap.size, 0, none⟩), .string s, .pointer (some ⟨w.heap.size + 1, 2, none⟩), .string path, .agg #[.string s, .string path, .int .i64 1, .slice none 0 0], .pointer (some ⟨w.heap.size + 1, 2, none⟩), .string path, .bool false, undef, .pointer (some ⟨w.heap.size + 1, 0, none⟩), .string host, .pointer (some ⟨w.heap.size + 1, 1, none⟩), .int .i64 port, .bool false, undef, undef, undef, undef, undef, undef, .string host, .agg #[.string ⟨#[72, 111, 115, 116]⟩, .string host], .slice (some ⟨w.heap.size + 1 + 1 + 1 + 1, 0, none⟩) 1 1, .pointer (some ⟨w.heap.size + 1 + 1 + 1, 3, none⟩), .pointer (some ⟨w.heap.size + 1 + 1 + 1, 3, none⟩), .slice (some ⟨w.heap.size + 1 + 1 + 1 + 1, 0, none⟩) 1 1, .pointer (some ⟨w.heap.size, 3, none⟩), .slice A n c, .slice A2 N c2, .slice A3 4 c3, .slice A4 M c4, .slice A5 (1 + M) c5, .pointer (some ⟨w.heap.size + 1 + 1 + 1, 3, none⟩), .pointer (some ⟨w.heap.size + 1 + 1 + 1, 3, none⟩), .slice A5 (1 + M) c5, .pointer (some ⟨w.heap.size, 3, none⟩), .slice A n c, .pointer (some ⟨w.heap.size, 2, none⟩), .int .i64 m, undef, undef, undef, undef, undef, undef, undef], []⟩ _)
  · intro u hu
    obtain ⟨⟨hx, ht, ho, hh, hb⟩, hz⟩ := hu
    have c2 := hx.cell 2 rfl
    go_simp
  refine HT.take 6 (.string via) rfl (by kernel_rfl) (fun _ _ _ h => h) (Or.inl ⟨by rfl, ?_⟩) (?_ : HT _ _ _ _ _ _ _ ⟨#[.agg #[.string s, .string r, .int .i64 m, .slice A n c], .agg #[.string host, .int .i64 port, .string path], .string via, .pointer (some ⟨w.heap.size, 0, none⟩), .pointer (some ⟨w.heap.size + 1, 0, none⟩), undef, .pointer (some ⟨w.heap.size + 1 + 1, 0, none⟩), .pointer (some ⟨w.heap.size + 1 + 1 + 1, 0, none⟩), .string host, .pointer (some ⟨w.heap.size, 0, none⟩), .string s, .pointer (some ⟨w.heap.size + 1, 2, none⟩), .string path, .agg #[.string s, .string path, .int .i64 1, .slice none 0 0], .pointer (some ⟨w.heap.size + 1, 2, none⟩), .string path, .bool false, undef, .pointer (some ⟨w.heap.size + 1, 0, none⟩), .string host, .pointer (some ⟨w.heap.size + 1, 1, none⟩), .int .i64 port, .bool false, undef, undef, undef, undef, undef, undef, .string host, .agg #[.string ⟨#[72, 111, 115, 116]⟩, .string host], .slice (some ⟨w.heap.size + 1 + 1 + 1 + 1, 0, none⟩) 1 1, .pointer (some ⟨w.heap.size + 1 + 1 + 1, 3, none⟩), .pointer (some ⟨w.heap.size + 1 + 1 + 1, 3, none⟩), .slice (some ⟨w.heap.size + 1 + 1 + 1 + 1, 0, none⟩) 1 1, .pointer (some ⟨w.heap.size, 3, none⟩), .slice A n c, .slice A2 N c2, .slice A3 4 c3, .slice A4 M c4, .slice A5 (1 + M) c5, .pointer (some ⟨w.heap.size + 1 + 1 + 1, 3, none⟩), .pointer (some ⟨w.heap.size + 1 + 1 + 1, 3, none⟩), .slice A5 (1 + M) c5, .pointer (some ⟨w.heap.size, 3, none⟩), .slice A n c, .pointer (some ⟨w.heap.size, 2, none⟩), .int .i64 m, .string via, undef, undef, undef, undef, undef, undef], []⟩ _)
  · intro u hu
    go_simp
  refine HT.step 7 rfl (by kernel_rfl) (fun hS K hK => ?_)
  go_simp
  refine (hV.out _ hS.1.2.2.2.2).mono ?_
  rintro e w10 ⟨rfl, hb10⟩
  refine hK.out _ _ ⟨hS.1.below hb10, hS.2.below hb10⟩ ?_
  clear hK hS hb10
  refine HT.take 8 (.agg #[.string ⟨#[86, 105, 97]⟩, .string V]) rfl (by kernel_rfl) (fun _ _ _ h => h) (Or.inl ⟨by rfl, ?_⟩) (?_ : HT _ _ _ _ _ _ _ ⟨#[.agg #[.string s, .string r, .int .i64 m, .slice A n c], .agg #[.string host, .int .i64 port, .string path], .string via, .pointer (some ⟨w.heap.size, 0, none⟩), .pointer (some ⟨w.heap.size + 1, 0, none⟩), undef, .pointer (some ⟨w.heap.size + 1 + 1, 0, none⟩), .pointer (some ⟨w.heap.size + 1 + 1 + 1, 0, none⟩), .string host, .pointer (some ⟨w.heap.size, 0, none⟩), .string s, .pointer (some ⟨w.heap.size + 1, 2, none⟩), .string path, .agg #[.string s, .string path, .int .i64 1, .slice none 0 0], .pointer (some ⟨w.heap.size + 1, 2, none⟩), .string path, .bool false, undef, .pointer (some ⟨w.heap.size + 1, 0, none⟩), .string host, .pointer (some ⟨w.heap.size + 1, 1, none⟩), .int .i64 port, .bool false, undef, undef, undef, undef, undef, undef, .string host, .agg #[.string ⟨#[72, 111, 115, 116]⟩, .string host], .slice (some ⟨w.heap.size + 1 + 1 + 1 + 1, 0, none⟩) 1 1, .pointer (some ⟨w.heap.size + 1 + 1 + 1, 3, none⟩), .pointer (some ⟨w.heap.size + 1 + 1 + 1, 3, none⟩), .slice (some ⟨w.heap.size + 1 + 1 + 1 + 1, 0, none⟩) 1 1, .pointer (some ⟨w.heap.size, 3, none⟩), .slice A n c, .slice A2 N c2, .slice A3 4 c3, .slice A4 M c4, .slice A5 (1 + M) c5, .pointer (some ⟨w.heap.size + 1 + 1 + 1, 3, none⟩), .pointer (some ⟨w.heap.size + 1 + 1 + 1, 3, none⟩), .slice A5 (1 + M) c5, .pointer (some ⟨w.heap.size, 3, none⟩), .slice A n c, .pointer (some ⟨w.heap.size, 2, none⟩), .int .i64 m, .string via, .string V, .agg #[.string ⟨#[86, 105, 97]⟩, .string V], undef, undef, undef, undef], []⟩ _)
  · intro u hu
    go_simp
  refine HT.step 9 rfl (by kernel_rfl) (fun hS K hK => ?_)
  go_simp
  refine hK.out _ _ ⟨hS.1.below ((Below.refl _ _).alloc (Nat.le_refl _) _), hS.2.alloc _⟩ ?_
  clear hK hS
  refine HT.tail _ rfl rfl (by kernel_rfl) (fun hS => ?_)
  have HS10 := Lib.hid hS
  clear hS HT9 HR9 hS1
  have hz10 : w.heap.size + 4 ≤ w10.heap.size + 1 := by have := HS10.out.1.2.2.2.1.lt; rw [World.size_alloc] at this; omega
  refine appF _ rfl (.tmp 43) (.tmp 51) rfl (w.heap.size + 4) A5 (1 + M) c5 ([(F.hostN, host)] ++ U) rfl HS10.out.2 _ 1 1 [(F.via3, V)] rfl (newF _ (F.via3, V)) (by omega) (by rw [World.size_alloc]; omega) ?_
  intro A6 c6 w11 hr6 ha6
  have HS11 := Lib.hid (HS10.out.1.app ha6 HS10.out.2 (Nat.le_refl _) (by rw [World.size_alloc]; omega))
  have d3 := HS11.out.2.2.2.1.cell 3 (v := .slice A5 (1 + M) c5) rfl
  have g3 := HS11.out.2.2.2.1.free 3
  have HT11 : Hid (ReqR w #[.string s, .string r, .int .i64 m, .slice A n c] #[.string host, .int .i64 port, .string path] #[.string ⟨#[]⟩, .string ⟨#[]⟩, .int .i64 0, .slice none 0 0] #[.string s, .string path, .int .i64 1, .slice A6 (1 + M + 1) c6] (w11.setCell ⟨w.heap.size + 1 + 1 + 1, 3, none⟩ (.slice A6 (1 + M + 1) c6))) := Lib.hid ⟨HS11.out.1.far (b' := w.heap.size + 1 + 1 + 1) 3 _ (by omega), HS11.out.2.1.far (b' := w.heap.size + 1 + 1 + 1) 3 _ (by omega), HS11.out.2.2.1.far (b' := w.heap.size + 1 + 1 + 1) 3 _ (by omega), HS11.out.2.2.2.1.set 3 _, below_set HS11.out.2.2.2.2 (b := w.heap.size + 1 + 1 + 1) (by omega) 3 _⟩
  have HR11 := Lib.hid (hr6.farT HS11.out.2.2.2.1 (by decide) 3 (.slice A6 (1 + M + 1) c6))
  obtain ⟨x0, x1, x2, x3⟩ := HT11.out.2.2.2.1.cells4
  obtain ⟨o0, o1, o2, o3⟩ := HT11.out.2.2.1.cells4
  obtain ⟨f0, f1, f2, f3⟩ := HT11.out.2.2.1.free4
  clear ha6 hr6 HS10 HS11
  go_wp2
  refine NoPanic.normal ?_
  clear d3 g3
  generalize w11.setCell ⟨w.heap.size + 1 + 1 + 1, 3, none⟩ (.slice A6 (1 + M + 1) c6) = w12 at *
  go_wp2
  have hk := HT11.out.2.2.1.set4 (.string s) (.string path) (.int .i64 1) (.slice A6 (1 + M + 1) c6)
  have hr := HR11.out.farT4 HT11.out.2.2.1 (by decide) (.string s) (.string path) (.int .i64 1) (.slice A6 (1 + M + 1) c6)
  have hb := below_four HT11.out.2.2.2.2 (b := w.heap.size + 1 + 1) (by omega) (.string s) (.string path) (.int .i64 1) (.slice A6 (1 + M + 1) c6)
  clear x0 x1 x2 x3 o0 o1 o2 o3 f0 f1 f2 f3 HT11 HR11
  generalize ((((w12.setCell ⟨w.heap.size + 1 + 1, 0, none⟩ (.string s)).setCell ⟨w.heap.size + 1 + 1, 1, none⟩ (.string path)).setCell ⟨w.heap.size + 1 + 1, 2, none⟩ (.int .i64 1)).setCell ⟨w.heap.size + 1 + 1, 3, none⟩ (.slice A6 (1 + M + 1) c6)) = W at *
  obtain ⟨d0, d1, d2, d3⟩ := hk.cells4
  refine bodyPost_ret (v := .agg #[.string s, .string path, .int .i64 1, .slice A6 (1 + M + 1) c6]) (by simp [results, Tryd.results36, go_sem, d0, d1, d2, d3]) rfl ?_
  rw [HPV.out]
  refine ⟨A6, c6, by rw [HPL.out], ?_, hb⟩
  rw [HPL.out, HPP.out]
  exact hr.mono (by omega)

set_option maxRecDepth 100000 in
set_option maxHeartbeats 2000000 in
theorem refRequest_px (s r via host path I hv V : ByteArray) (m port : Int) (A : Option Addr) (n c N M : Nat) (T U P : List FD) (w : World)
    (hSt : Hid (∀ w1 : World, Below w.heap.size w w1 → Calls Tryd.prog 16 #[.slice A n c] w1 (RetRow w1 67 2 N (fcells T))))
    (hW : Hid (∀ (A1 : Option Addr) (c1 : Nat) (X : Option Addr) (d : Nat) (w1 : World), Rd w1 A1 N 2 (fcells T) → Rd w1 X 4 1 (scells F.four) → Calls Tryd.prog 47 #[.slice A1 N c1, .slice X 4 d] w1 (RetRow w1 67 2 M (fcells U))))
    (hV : Hid (∀ w1 : World, Below w.heap.size w w1 → Calls Tryd.prog 66 #[.slice A n c, .int .i64 m, .string via] w1 (RetS w1 V)))
    (hM : M ≤ 1099511627776) (HPL : Hid (P.length = 1 + M + 1)) (HPP : Hid (P = [(F.hostN, hv)] ++ U ++ [(F.via3, V)]))
    (HPV : Hid (F.pathOf path = path)) (hpe : ¬ path = ⟨#[]⟩)
    (hI : Hid (∀ w1 : World, Calls Tryd.prog 51 #[.int .i64 port] w1 (RetS w1 I))) (hIs : I.size ≤ 9223372036854775806) (hhs : host.size + (1 + I.size) ≤ 9223372036854775807) (hp : ¬ port = 80) (HHV : Hid (hv = host ++ (⟨#[58]⟩ ++ I))) :
    Calls Tryd.prog 36 #[.agg #[.string s, .string r, .int .i64 m, .slice A n c], .agg #[.string host, .int .i64 port, .string path], .string via] w (RetQ w s (F.pathOf path) 1 P) := by
  have hpp := HPP.out
  rw [HHV.out] at hpp
  clear HPP
  have HPP := Lib.hid hpp
  clear hpp
  have hpb : (port != 80) = true := by simpa using hp
  clear hp
  have he1 : ¬ path.toList = [] := fun h => hpe (toList_inj.1 (h.trans (by simp)))
  have he2 : path.toList.isEmpty = false := by cases h : path.toList <;> simp_all
  clear hpe
  go_enter Tryd.func36, Tryd.ntmps36
  go_wp2_with fail
  have HS4 := Lib.hid (ReqR.start w #[.string s, .string r, .int .i64 m, .slice A n c] #[.string host, .int .i64 port, .string path] #[.string ⟨#[]⟩, .string ⟨#[]⟩, .int .i64 0, .slice none 0 0] #[.string s, .string path, .int .i64 1, .slice none 0 0])
  generalize ((((w.alloc (.cells #[.string s, .string r, .int .i64 m, .slice A n c] 50)).alloc (.cells #[.string host, .int .i64 port, .string path] 52)).alloc (.cells #[.string ⟨#[]⟩, .string ⟨#[]⟩, .int .i64 0, .slice none 0 0] 50)).alloc (.cells #[.string s, .string path, .int .i64 1, .slice none 0 0] 50)) = w4 at *
  refine (hI.out _).mono ?_
  rintro e w5 ⟨rfl, hb5⟩
  have HS5 := Lib.hid ((HS4.out.below hb5).below ((Below.refl _ _).alloc (Nat.le_refl _) (.cells #[.string ⟨#[72, 111, 115, 116]⟩, .string (host ++ (⟨#[58]⟩ ++ I))] 67)))
  have hz5 : w.heap.size + 4 ≤ w5.heap.size := by have := (HS4.out.below hb5).2.2.2.1.lt; omega
  clear hb5 HS4
  have d3 := HS5.out.2.2.2.1.cell 3 (v := .slice none 0 0) rfl
  have g3 := HS5.out.2.2.2.1.free 3
  go_wp2
  clear d3 g3
  have HS7 : Hid (ReqR w #[.string s, .string r, .int .i64 m, .slice A n c] #[.string host, .int .i64 port, .string path] #[.string ⟨#[]⟩, .string ⟨#[]⟩, .int .i64 0, .slice none 0 0] #[.string s, .string path, .int .i64 1, .slice (some ⟨w5.heap.size, 0, none⟩) 1 1] ((w5.alloc (.cells #[.string ⟨#[72, 111, 115, 116]⟩, .string (host ++ (⟨#[58]⟩ ++ I))] 67)).setCell ⟨w.heap.size + 1 + 1 + 1, 3, none⟩ (.slice (some ⟨w5.heap.size, 0, none⟩) 1 1))) := Lib.hid ⟨HS5.out.1.far (b' := w.heap.size + 1 + 1 + 1) 3 _ (by omega), HS5.out.2.1.far (b' := w.heap.size + 1 + 1 + 1) 3 _ (by omega), HS5.out.2.2.1.far (b' := w.heap.size + 1 + 1 + 1) 3 _ (by omega), HS5.out.2.2.2.1.set 3 _, below_set HS5.out.2.2.2.2 (b := w.heap.size + 1 + 1 + 1) (by omega) 3 _⟩
  have HR7 : Hid (Row ((w5.alloc (.cells #[.string ⟨#[72, 111, 115, 116]⟩, .string (host ++ (⟨#[58]⟩ ++ I))] 67)).setCell ⟨w.heap.size + 1 + 1 + 1, 3, none⟩ (.slice (some ⟨w5.heap.size, 0, none⟩) 1 1)) (w.heap.size + 4) 67 2 (some ⟨w5.heap.size, 0, none⟩) 1 1 (fcells [(F.hostN, (host ++ (⟨#[58]⟩ ++ I)))])) := Lib.hid ((newRow1 w5 (F.hostN, (host ++ (⟨#[58]⟩ ++ I))) (w.heap.size + 4) hz5).farT HS5.out.2.2.2.1 (by decide) 3 (.slice (some ⟨w5.heap.size, 0, none⟩) 1 1))
  clear HS5
  generalize ((w5.alloc (.cells #[.string ⟨#[72, 111, 115, 116]⟩, .string (host ++ (⟨#[58]⟩ ++ I))] 67)).setCell ⟨w.heap.size + 1 + 1 + 1, 3, none⟩ (.slice (some ⟨w5.heap.size, 0, none⟩) 1 1)) = w7 at *
  have hS0 : (ReqR w #[.string s, .string r, .int .i64 m, .slice A n c] #[.string host, .int .i64 port, .string path] #[.string ⟨#[]⟩, .string ⟨#[]⟩, .int .i64 0, .slice none 0 0] #[.string s, .string path, .int .i64 1, .slice (some ⟨w5.heap.size, 0, none⟩) 1 1] w7.drew ∧ w7.heap.size ≤ w7.drew.heap.size ∧ Row w7.drew (w.heap.size + 4) 67 2 (some ⟨w5.heap.size, 0, none⟩) 1 1 (fcells [(F.hostN, (host ++ (⟨#[58]⟩ ++ I)))])) := ⟨HS7.out.below (Below.refl _ _).drew, Nat.le_refl _, HR7.out⟩
  refine wp_region_noPanic ?_
  refine HT.begin (n := 7) (S := fun u => ReqR w #[.string s, .string r, .int .i64 m, .slice A n c] #[.string host, .int .i64 port, .string path] #[.string ⟨#[]⟩, .string ⟨#[]⟩, .int .i64 0, .slice none 0 0] #[.string s, .string path, .int .i64 1, .slice (some ⟨w5.heap.size, 0, none⟩) 1 1] u ∧ w7.heap.size ≤ u.heap.size ∧ Row u (w.heap.size + 4) 67 2 (some ⟨w5.heap.size, 0, none⟩) 1 1 (fcells [(F.hostN, (host ++ (⟨#[58]⟩ ++ I)))])) (by kernel_rfl) hS0 ?_
  refine HT.take 0 (.pointer (some ⟨w.heap.size + 1 + 1 + 1, 3, none⟩)) rfl (by kernel_rfl) (fun _ _ _ h => h) (Or.inl ⟨by rfl, ?_⟩) (?_ : HT _ _ _ _ _ _ _ ⟨#[.agg #[.string s, .string r, .int .i64 m, .slice A n c], .agg #[.string host, .int .i64 port, .string path], .string via, .pointer (some ⟨w.heap.size, 0, none⟩), .pointer (some ⟨w.heap.size + 1, 0, none⟩), undef, .pointer (some ⟨w.heap.size + 1 + 1, 0, none⟩), .pointer (some ⟨w.heap.size + 1 + 1 + 1, 0, none⟩), .string (host ++ (⟨#[58]⟩ ++ I)), .pointer (some ⟨w.heap.size, 0, none⟩), .string s, .pointer (some ⟨w.heap.size + 1, 2, none⟩), .string path, .agg #[.string s, .string path, .int .i64 1, .slice none 0 0], .pointer (some ⟨w.heap.size + 1, 2, none⟩), .string path, .bool false, undef, .pointer (some ⟨w.heap.size + 1, 0, none⟩), .string host, .pointer (some ⟨w.heap.size + 1, 1, none⟩), .int .i64 port, .bool true, .string host, .pointer (some ⟨w.heap.size + 1, 1, none⟩), .int .i64 port, .string I, .string (⟨#[58]⟩ ++ I), .string (host ++ (⟨#[58]⟩ ++ I)), .string (host ++ (⟨#[58]⟩ ++ I)), .agg #[.string ⟨#[72, 111, 115, 116]⟩, .string (host ++ (⟨#[58]⟩ ++ I))], .slice (some ⟨w5.heap.size, 0, none⟩) 1 1, .pointer (some ⟨w.heap.size + 1 + 1 + 1, 3, none⟩), .pointer (some ⟨w.heap.size + 1 + 1 + 1, 3, none⟩), undef, undef, undef, undef, undef, undef, undef, undef, undef, undef, undef, undef, undef, undef, undef, undef, undef, undef, undef, undef, undef], []⟩ _)
  · intro u hu
    go_simp
  refine HT.take 1 (.slice (some ⟨w5.heap.size, 0, none⟩) 1 1) rfl (by kernel_rfl) (fun _ _ _ h => h) (Or.inl ⟨by rfl, ?_⟩) (?_ : HT _ _ _ _ _ _ _ ⟨#[.agg #[.string s, .string r, .int .i64 m, .slice A n c], .agg #[.string host, .int .i64 port, .string path], .string via, .pointer (some ⟨w.heap.size, 0, none⟩), .pointer (some ⟨w.heap.size + 1, 0, none⟩), undef, .pointer (some ⟨w.heap.size + 1 + 1, 0, none⟩), .pointer (some ⟨w.heap.size + 1 + 1 + 1, 0, none⟩), .string (host ++ (⟨#[58]⟩ ++ I)), .pointer (some ⟨w.heap.size, 0, none⟩), .string s, .pointer (some ⟨w.heap.size + 1, 2, none⟩), .string path, .agg #[.string s, .string path, .int .i64 1, .slice none 0 0], .pointer (some ⟨w.heap.size + 1, 2, none⟩), .string path, .bool false, undef, .pointer (some ⟨w.heap.size + 1, 0, none⟩), .string host, .pointer (some ⟨w.heap.size + 1, 1, none⟩), .int .i64 port, .bool true, .string host, .pointer (some ⟨w.heap.size + 1, 1, none⟩), .int .i64 port, .string I, .string (⟨#[58]⟩ ++ I), .string (host ++ (⟨#[58]⟩ ++ I)), .string (host ++ (⟨#[58]⟩ ++ I)), .agg #[.string ⟨#[72, 111, 115, 116]⟩, .string (host ++ (⟨#[58]⟩ ++ I))], .slice (some ⟨w5.heap.size, 0, none⟩) 1 1, .pointer (some ⟨w.heap.size + 1 + 1 + 1, 3, none⟩), .pointer (some ⟨w.heap.size + 1 + 1 + 1, 3, none⟩), .slice (some ⟨w5.heap.size, 0, none⟩) 1 1, undef, undef, undef, undef, undef, undef, undef, undef, undef, undef, undef, undef, undef, undef, undef, undef, undef, undef, undef, undef], []⟩ _)
  · intro u hu
    obtain ⟨⟨hx, ht, ho, hh, hb⟩, hz⟩ := hu
    have c3 := hh.cell 3 rfl
    go_simp
  refine HT.take 2 (.pointer (some ⟨w.heap.size, 3, none⟩)) rfl (by kernel_rfl) (fun _ _ _ h => h) (Or.inl ⟨by rfl, ?_⟩) (?_ : HT _ _ _ _ _ _ _ ⟨#[.agg #[.string s, .string r, .int .i64 m, .slice A n c], .agg #[.string host, .int .i64 port, .string path], .string via, .pointer (some ⟨w.heap.size, 0, none⟩), .pointer (some ⟨w.heap.size + 1, 0, none⟩), undef, .pointer (some ⟨w.heap.size + 1 + 1, 0, none⟩), .pointer (some ⟨w.heap.size + 1 + 1 + 1, 0, none⟩), .string (host ++ (⟨#[58]⟩ ++ I)), .pointer (some ⟨w.heap.size, 0, none⟩), .string s, .pointer (some ⟨w.heap.size + 1, 2, none⟩), .string path, .agg #[.string s, .string path, .int .i64 1, .slice none 0 0], .pointer (some ⟨w.heap.size + 1, 2, none⟩), .string path, .bool false, undef, .pointer (some ⟨w.heap.size + 1, 0, none⟩), .string host, .pointer (some ⟨w.heap.size + 1, 1, none⟩), .int .i64 port, .bool true, .string host, .pointer (some ⟨w.heap.size + 1, 1, none⟩), .int .i64 port, .string I, .string (⟨#[58]⟩ ++ I), .string (host ++ (⟨#[58]⟩ ++ I)), .string (host ++ (⟨#[58]⟩ ++ I)), .agg #[.string ⟨#[72, 111, 115, 116]⟩, .string (host ++ (⟨#[58]⟩ ++ I))], .slice (some ⟨w5.heap.size, 0, none⟩) 1 1, .pointer (some ⟨w.heap.size + 1 + 1 + 1, 3, none⟩), .pointer (some ⟨w.heap.size + 1 + 1 + 1, 3, none⟩), .slice (some ⟨w5.heap.size, 0, none⟩) 1 1, .pointer (some ⟨w.heap.size, 3, none⟩), undef, undef, undef, undef, undef, undef, undef, undef, undef, undef, undef, undef, undef, undef, undef, undef, undef, undef, undef], []⟩ _)
  · intro u hu
    go_simp
  refine HT.take 3 (.slice A n c) rfl (by kernel_rfl) (fun _ _ _ h => h) (Or.inl ⟨by rfl, ?_⟩) (?_ : HT _ _ _ _ _ _ _ ⟨#[.agg #[.string s, .string r, .int .i64 m, .slice A n c], .agg #[.string host, .int .i64 port, .string path], .string via, .pointer (some ⟨w.heap.size, 0, none⟩), .pointer (some ⟨w.heap.size + 1, 0, none⟩), undef, .pointer (some ⟨w.heap.size + 1 + 1, 0, none⟩), .pointer (some ⟨w.heap.size + 1 + 1 + 1, 0, none⟩), .string (host ++ (⟨#[58]⟩ ++ I)), .pointer (some ⟨w.heap.size, 0, none⟩), .string s, .pointer (some ⟨w.heap.size + 1, 2, none⟩), .string path, .agg #[.string s, .string path, .int .i64 1, .slice none 0 0], .pointer (some ⟨w.heap.size + 1, 2, none⟩), .string path, .bool false, undef, .pointer (some ⟨w.heap.size + 1, 0, none⟩), .string host, .pointer (some ⟨w.heap.size + 1, 1, none⟩), .int .i64 port, .bool true, .string host, .pointer (some ⟨w.heap.size + 1, 1, none⟩), .int .i64 port, .string I, .string (⟨#[58]⟩ ++ I), .string (host ++ (⟨#[58]⟩ ++ I)), .string (host ++ (⟨#[58]⟩ ++ I)), .agg #[.string ⟨#[72, 111, 115, 116]⟩, .string (host ++ (⟨#[58]⟩ ++ I))], .slice (some ⟨w5.heap.size, 0, none⟩) 1 1, .pointer (some ⟨w.heap.size + 1 + 1 + 1, 3, none⟩), .pointer (some ⟨w.heap.size + 1 + 1 + 1, 3, none⟩), .slice (some ⟨w5.heap.size, 0, none⟩) 1 1, .pointer (some ⟨w.heap.size, 3, none⟩), .slice A n c, undef, undef, undef, undef, undef, undef, undef, undef, undef, undef, undef, undef, undef, undef, undef, undef, undef, undef], []⟩ _)
  · intro u hu
    obtain ⟨⟨hx, ht, ho, hh, hb⟩, hz⟩ := hu
    have c3 := hx.cell 3 rfl
    go_simp
  refine HT.block (f0 := 3) [4, 5, 6] (fun j v u => match j with | 4 => SlRow w.heap.size 67 2 N (fcells T) v u | 5 => SlRd 1 4 (scells F.four) v u | 6 => SlRow w.heap.size 67 2 M (fcells U) v u | _ => True) (fun vs => ⟨#[.agg #[.string s, .string r, .int .i64 m, .slice A n c], .agg #[.string host, .int .i64 port, .string path], .string via, .pointer (some ⟨w.heap.size, 0, none⟩), .pointer (some ⟨w.heap.size + 1, 0, none⟩), undef, .pointer (some ⟨w.heap.size + 1 + 1, 0, none⟩), .pointer (some ⟨w.heap.size + 1 + 1 + 1, 0, none⟩), .string (host ++ (⟨#[58]⟩ ++ I)), .pointer (some ⟨w.heap.size, 0, none⟩), .string s, .pointer (some ⟨w.heap.size + 1, 2, none⟩), .string path, .agg #[.string s, .string path, .int .i64 1, .slice none 0 0], .pointer (some ⟨w.heap.size + 1, 2, none⟩), .string path, .bool false, undef, .pointer (some ⟨w.heap.size + 1, 0, none⟩), .string host, .pointer (some ⟨w.heap.size + 1, 1, none⟩), .int .i64 port, .bool true, .string host, .pointer (some ⟨w.heap.size + 1, 1, none⟩), .int .i64 port, .string I, .string (⟨#[58]⟩ ++ I), .string (host ++ (⟨#[58]⟩ ++ I)), .string (host ++ (⟨#[58]⟩ ++ I)), .agg #[.string ⟨#[72, 111, 115, 116]⟩, .string (host ++ (⟨#[58]⟩ ++ I))], .slice (some ⟨w5.heap.size, 0, none⟩) 1 1, .pointer (some ⟨w.heap.size + 1 + 1 + 1, 3, none⟩), .pointer (some ⟨w.heap.size + 1 + 1 + 1, 3, none⟩), .slice (some ⟨w5.heap.size, 0, none⟩) 1 1, .pointer (some ⟨w.heap.size, 3, none⟩), .slice A n c, vs 4, vs 5, vs 6, undef, undef, undef, undef, undef, undef, undef, undef, undef, undef, undef, undef, undef, undef, undef], []⟩) (fun _ => rfl) (by kernel_rfl) (fun u u' hb h => ⟨h.1.below hb, Nat.le_trans h.2.1 hb.size, h.2.2.below hb⟩) (fun j v u u' hb h => by revert h; split <;> intro h <;> first | exact h.below hb | trivial) (List.forall_mem_cons.2 ⟨⟨_, rfl, ?_⟩, List.forall_mem_cons.2 ⟨⟨_, rfl, ?_⟩, List.forall_mem_cons.2 ⟨⟨_, rfl, ?_⟩, fun _ h => by cases h⟩⟩⟩) ?_
  · intro vs u hS hd K hK
    go_simp
    refine (hSt.out u hS.1.2.2.2.2).mono ?_
    rintro e w8 ⟨A1, c1, rfl, hr, hb⟩
    exact hK.out (.slice A1 N c1) _ ⟨A1, c1, rfl, hr.mono hS.1.2.2.2.2.size⟩ hb
  · intro vs u hS hd K hK
    go_simp
    exact hK.out (.slice (some ⟨u.heap.size, 0, none⟩) 4 4) _ ⟨_, _, rfl, Rd.newRow _ _ _ 4 1 rfl⟩ ((Below.refl _ _).alloc (Nat.le_refl _) _)
  · intro vs u hS hd K hK
    obtain ⟨A1, c1, e1, hr1⟩ : SlRow w.heap.size 67 2 N (fcells T) (vs 4) u := hd 4 (by simp) (by kernel_rfl)
    obtain ⟨A2, c2, e2, hr2⟩ : SlRd 1 4 (scells F.four) (vs 5) u := hd 5 (by simp) (by kernel_rfl)
    have hc := hW.out A1 c1 A2 c2 u hr1.rd hr2
    rw [← e1, ← e2] at hc
    clear e1 e2 hd
    have HC := Lib.hid hc
    clear hc
    go_simp
    refine HC.out.mono ?_
    rintro e w8 ⟨A3, c3, rfl, hr, hb⟩
    exact hK.out (.slice A3 M c3) _ ⟨A3, c3, rfl, hr.mono hS.1.2.2.2.2.size⟩ hb
  intro vs u hS hR
  have hv37 := hR 4 (by simp)
  generalize vs 4 = v37 at *
  have hv38 := hR 5 (by simp)
  generalize vs 5 = v38 at *
  have hv39 := hR 6 (by simp)
  generalize vs 6 = v39 at *
  clear hR
  refine (?_ : HT _ _ _ _ _ _ _ ⟨#[.agg #[.string s, .string r, .int .i64 m, .slice A n c], .agg #[.string host, .int .i64 port, .string path], .string via, .pointer (some ⟨w.heap.size, 0, none⟩), .pointer (some ⟨w.heap.size + 1, 0, none⟩), undef, .pointer (some ⟨w.heap.size + 1 + 1, 0, none⟩), .pointer (some ⟨w.heap.size + 1 + 1 + 1, 0, none⟩), .string (host ++ (⟨#[58]⟩ ++ I)), .pointer (some ⟨w.heap.size, 0, none⟩), .string s, .pointer (some ⟨w.heap.size + 1, 2, none⟩), .string path, .agg #[.string s, .string path, .int .i64 1, .slice none 0 0], .pointer (some ⟨w.heap.size + 1, 2, none⟩), .string path, .bool false, undef, .pointer (some ⟨w.heap.size + 1, 0, none⟩), .string host, .pointer (some ⟨w.heap.size + 1, 1, none⟩), .int .i64 port, .bool true, .string host, .pointer (some ⟨w.heap.size + 1, 1, none⟩), .int .i64 port, .string I, .string (⟨#[58]⟩ ++ I), .string (host ++ (⟨#[58]⟩ ++ I)), .string (host ++ (⟨#[58]⟩ ++ I)), .agg #[.string ⟨#[72, 111, 115, 116]⟩, .string (host ++ (⟨#[58]⟩ ++ I))], .slice (some ⟨w5.heap.size, 0, none⟩) 1 1, .pointer (some ⟨w.heap.size + 1 + 1 + 1, 3, none⟩), .pointer (some ⟨w.heap.size + 1 + 1 + 1, 3, none⟩), .slice (some ⟨w5.heap.size, 0, none⟩) 1 1, .pointer (some ⟨w.heap.size, 3, none⟩), .slice A n c, v37, v38, v39, undef, undef, undef, undef, undef, undef, undef, undef, undef, undef, undef, undef, undef, undef, undef], []⟩ _)
  obtain ⟨A2, c2, rfl, hr2⟩ := hv37
  obtain ⟨A3, c3, rfl, hr3⟩ := hv38
  obtain ⟨A4, c4, rfl, hr4⟩ := hv39
  clear hr2 hr3
  refine HT.tail _ rfl rfl (by kernel_rfl) (fun hS => ?_)
  have HS8 := Lib.hid hS
  clear hS
  have hz8 : w.heap.size + 4 ≤ u.heap.size := by have := HS8.out.1.2.2.2.1.lt; omega
  refine appF _ rfl (.tmp 34) (.tmp 39) rfl (w.heap.size + 4) (some ⟨w5.heap.size, 0, none⟩) 1 1 [(F.hostN, (host ++ (⟨#[58]⟩ ++ I)))] rfl HS8.out.2.2 A4 M c4 U rfl hr4.rd (by omega) hz8 ?_
  intro A5 c5 w8 hr5 ha5
  have HS9 := Lib.hid (HS8.out.1.app ha5 HS8.out.2.2 (Nat.le_refl _) hz8)
  have d3 := HS9.out.2.2.2.1.cell 3 (v := .slice (some ⟨w5.heap.size, 0, none⟩) 1 1) rfl
  have g3 := HS9.out.2.2.2.1.free 3
  have HT9 : Hid (ReqR w #[.string s, .string r, .int .i64 m, .slice A n c] #[.string host, .int .i64 port, .string path] #[.string ⟨#[]⟩, .string ⟨#[]⟩, .int .i64 0, .slice none 0 0] #[.string s, .string path, .int .i64 1, .slice A5 (1 + M) c5] (w8.setCell ⟨w.heap.size + 1 + 1 + 1, 3, none⟩ (.slice A5 (1 + M) c5))) := Lib.hid ⟨HS9.out.1.far (b' := w.heap.size + 1 + 1 + 1) 3 _ (by omega), HS9.out.2.1.far (b' := w.heap.size + 1 + 1 + 1) 3 _ (by omega), HS9.out.2.2.1.far (b' := w.heap.size + 1 + 1 + 1) 3 _ (by omega), HS9.out.2.2.2.1.set 3 _, below_set HS9.out.2.2.2.2 (b := w.heap.size + 1 + 1 + 1) (by omega) 3 _⟩
  have HR9 := Lib.hid (hr5.farT HS9.out.2.2.2.1 (by decide) 3 (.slice A5 (1 + M) c5))
  clear hr4 ha5 hr5 HS8 HS9 HS7 HR7 hz8
  go_wp2
  refine NoPanic.normal ?_
  go_wp2
  clear d3 g3
  generalize w8.setCell ⟨w.heap.size + 1 + 1 + 1, 3, none⟩ (.slice A5 (1 + M) c5) = w9 at *
  have hS1 : (ReqR w #[.string s, .string r, .int .i64 m, .slice A n c] #[.string host, .int .i64 port, .string path] #[.string ⟨#[]⟩, .string ⟨#[]⟩, .int .i64 0, .slice none 0 0] #[.string s, .string path, .int .i64 1, .slice A5 (1 + M) c5] w9.drew ∧ Row w9.drew (w.heap.size + 4) 67 2 A5 (1 + M) c5 (fcells ([(F.hostN, (host ++ (⟨#[58]⟩ ++ I)))] ++ U))) := ⟨HT9.out.below (Below.refl _ _).drew, HR9.out⟩
  refine wp_region_noPanic ?_
  refine HT.begin (n := 10) (S := fun u => ReqR w #[.string s, .string r, .int .i64 m, .slice A n c] #[.string host, .int .i64 port, .string path] #[.string ⟨#[]⟩, .string ⟨#[]⟩, .int .i64 0, .slice none 0 0] #[.string s, .string path, .int .i64 1, .slice A5 (1 + M) c5] u ∧ Row u (w.heap.size + 4) 67 2 A5 (1 + M) c5 (fcells ([(F.hostN, (host ++ (⟨#[58]⟩ ++ I)))] ++ U))) (by kernel_rfl) hS1 ?_
  refine HT.take 0 (.pointer (some ⟨w.heap.size + 1 + 1 + 1, 3, none⟩)) rfl (by kernel_rfl) (fun _ _ _ h => h) (Or.inl ⟨by rfl, ?_⟩) (?_ : HT _ _ _ _ _ _ _ ⟨#[.agg #[.string s, .string r, .int .i64 m, .slice A n c], .agg #[.string host, .int .i64 port, .string path], .string via, .pointer (some ⟨w.heap.size, 0, none⟩), .pointer (some ⟨w.heap.size + 1, 0, none⟩), undef, .pointer (some ⟨w.heap.size + 1 + 1, 0, none⟩), .pointer (some ⟨w.heap.size + 1 + 1 + 1, 0, none⟩), .string (host ++ (⟨#[58]⟩ ++ I)), .pointer (some ⟨w.heap.size, 0, none⟩), .string s, .pointer (some ⟨w.heap.size + 1, 2, none⟩), .string path, .agg #[.string s, .string path, .int .i64 1, .slice none 0 0], .pointer (some ⟨w.heap.size + 1, 2, none⟩), .string path, .bool false, undef, .pointer (some ⟨w.heap.size + 1, 0, none⟩), .string host, .pointer (some ⟨w.heap.size + 1, 1, none⟩), .int .i64 port, .bool true, .string host, .pointer (some ⟨w.heap.size + 1, 1, none⟩), .int .i64 port, .string I, .string (⟨#[58]⟩ ++ I), .string (host ++ (⟨#[58]⟩ ++ I)), .string (host ++ (⟨#[58]⟩ ++ I)), .agg #[.string ⟨#[72, 111, 115, 116]⟩, .string (host ++ (⟨#[58]⟩ ++ I))], .slice (some ⟨w5.heap.size, 0, none⟩) 1 1, .pointer (some ⟨w.heap.size + 1 + 1 + 1, 3, none⟩), .pointer (some ⟨w.heap.size + 1 + 1 + 1, 3, none⟩), .slice (some ⟨w5.heap.size, 0, none⟩) 1 1, .pointer (some ⟨w.heap.size, 3, none⟩), .slice A n c, .slice A2 N c2, .slice A3 4 c3, .slice A4 M c4, .slice A5 (1 + M) c5, .pointer (some ⟨w.heap.size + 1 + 1 + 1, 3, none⟩), .pointer (some ⟨w.heap.size + 1 + 1 + 1, 3, none⟩), undef, undef, undef, undef, undef, undef, undef, undef, undef, undef, undef, undef], []⟩ _)
  · intro u hu
    go_simp
  refine HT.take 1 (.slice A5 (1 + M) c5) rfl (by kernel_rfl) (fun _ _ _ h => h) (Or.inl ⟨by rfl, ?_⟩) (?_ : HT _ _ _ _ _ _ _ ⟨#[.agg #[.string s, .string r, .int .i64 m, .slice A n c], .agg #[.string host, .int .i64 port, .string path], .string via, .pointer (some ⟨w.heap.size, 0, none⟩), .pointer (some ⟨w.heap.size + 1, 0, none⟩), undef, .pointer (some ⟨w.heap.size + 1 + 1, 0, none⟩), .pointer (some ⟨w.heap.size + 1 + 1 + 1, 0, none⟩), .string (host ++ (⟨#[58]⟩ ++ I)), .pointer (some ⟨w.heap.size, 0, none⟩), .string s, .pointer (some ⟨w.heap.size + 1, 2, none⟩), .string path, .agg #[.string s, .string path, .int .i64 1, .slice none 0 0], .pointer (some ⟨w.heap.size + 1, 2, none⟩), .string path, .bool false, undef, .pointer (some ⟨w.heap.size + 1, 0, none⟩), .string host, .pointer (some ⟨w.heap.size + 1, 1, none⟩), .int .i64 port, .bool true, .string host, .pointer (some ⟨w.heap.size + 1, 1, none⟩), .int .i64 port, .string I, .string (⟨#[58]⟩ ++ I), .string (host ++ (⟨#[58]⟩ ++ I)), .string (host ++ (⟨#[58]⟩ ++ I)), .agg #[.string ⟨#[72, 111, 115, 116]⟩, .string (host ++ (⟨#[58]⟩ ++ I))], .slice (some ⟨w5.heap.size, 0, none⟩) 1 1, .pointer (some ⟨w.heap.size + 1 + 1 + 1, 3, none⟩), .pointer (some ⟨w.heap.size + 1 + 1 + 1, 3, none⟩), .slice (some ⟨w5.heap.size, 0, none⟩) 1 1, .pointer (some ⟨w.heap.size, 3, none⟩), .slice A n c, .slice A2 N c2, .slice A3 4 c3, .slice A4 M c4, .slice A5 (1 + M) c5, .pointer (some ⟨w.heap.size + 1 + 1 + 1, 3, none⟩), .pointer (some ⟨w.heap.size + 1 + 1 + 1, 3, none⟩), .slice A5 (1 + M) c5, undef, undef, undef, undef, undef, undef, undef, undef, undef, undef, undef], []⟩ _)
  · intro u hu
    obtain ⟨⟨hx, ht, ho, hh, hb⟩, hz⟩ := hu
    have c3 := hh.cell 3 rfl
    go_simp
  refine HT.take 2 (.pointer (some ⟨w.heap.size, 3, none⟩)) rfl (by kernel_rfl) (fun _ _ _ h => h) (Or.inl ⟨by rfl, ?_⟩) (?_ : HT _ _ _ _ _ _ _ ⟨#[.agg #[.string s, .string r, .int .i64 m, .slice A n c], .agg #[.string host, .int .i64 port, .string path], .string via, .pointer (some ⟨w.heap.size, 0, none⟩), .pointer (some ⟨w.heap.size + 1, 0, none⟩), undef, .pointer (some ⟨w.heap.size + 1 + 1, 0, none⟩), .pointer (some ⟨w.heap.size + 1 + 1 + 1, 0, none⟩), .string (host ++ (⟨#[58]⟩ ++ I)), .pointer (some ⟨w.heap.size, 0, none⟩), .string s, .pointer (some ⟨w.heap.size + 1, 2, none⟩), .string path, .agg #[.string s, .string path, .int .i64 1, .slice none 0 0], .pointer (some ⟨w.heap.size + 1, 2, none⟩), .string path, .bool false, undef, .pointer (some ⟨w.heap.size + 1, 0, none⟩), .string host, .pointer (some ⟨w.heap.size + 1, 1, none⟩), .int .i64 port, .bool true, .string host, .pointer (some ⟨w.heap.size + 1, 1, none⟩), .int .i64 port, .string I, .string (⟨#[58]⟩ ++ I), .string (host ++ (⟨#[58]⟩ ++ I)), .string (host ++ (⟨#[58]⟩ ++ I)), .agg #[.string ⟨#[72, 111, 115, 116]⟩, .string (host ++ (⟨#[58]⟩ ++ I))], .slice (some ⟨w5.heap.size, 0, none⟩) 1 1, .pointer (some ⟨w.heap.size + 1 + 1 + 1, 3, none⟩), .pointer (some ⟨w.heap.size + 1 + 1 + 1, 3, none⟩), .slice (some ⟨w5.heap.size, 0, none⟩) 1 1, .pointer (some ⟨w.heap.size, 3, none⟩), .slice A n c, .slice A2 N c2, .slice A3 4 c3, .slice A4 M c4, .slice A5 (1 + M) c5, .pointer (some ⟨w.heap.size + 1 + 1 + 1, 3, none⟩), .pointer (some ⟨w.heap.size + 1 + 1 + 1, 3, none⟩), .slice A5 (1 + M) c5, .pointer (some ⟨w.heap.size, 3, none⟩), undef, undef, undef, undef, undef, undef, undef, undef, undef, undef], []⟩ _)
  · intro u hu
    go_simp
  refine HT.take 3 (.slice A n c) rfl (by kernel_rfl) (fun _ _ _ h => h) (Or.inl ⟨by rfl, ?_⟩) (?_ : HT _ _ _ _ _ _ _ ⟨#[.agg #[.string s, .string r, .int .i64 m, .slice A n c], .agg #[.string host, .int .i64 port, .string path], .string via, .pointer (some ⟨w.heap.size, 0, none⟩), .pointer (some ⟨w.heap.size + 1, 0, none⟩), undef, .pointer (some ⟨w.heap.size + 1 + 1, 0, none⟩), .pointer (some ⟨w.heap.size + 1 + 1 + 1, 0, none⟩), .string (host ++ (⟨#[58]⟩ ++ I)), .pointer (some ⟨w.heap.size, 0, none⟩), .string s, .pointer (some ⟨w.heap.size + 1, 2, none⟩), .string path, .agg #[.string s, .string path, .int .i64 1, .slice none 0 0], .pointer (some ⟨w.heap.size + 1, 2, none⟩), .string path, .bool false, undef, .pointer (some ⟨w.heap.size + 1, 0, none⟩), .string host, .pointer (some ⟨w.heap.size + 1, 1, none⟩), .int .i64 port, .bool true, .string host, .pointer (some ⟨w.heap.size + 1, 1, none⟩), .int .i64 port, .string I, .string (⟨#[58]⟩ ++ I), .string (host ++ (⟨#[58]⟩ ++ I)), .string (host ++ (⟨#[58]⟩ ++ I)), .agg #[.string ⟨#[72, 111, 115, 116]⟩, .string (host ++ (⟨#[58]⟩ ++ I))], .slice (some ⟨w5.heap.size, 0, none⟩) 1 1, .pointer (some ⟨w.heap.size + 1 + 1 + 1, 3, none⟩), .pointer (some ⟨w.heap.size + 1 + 1 + 1, 3, none⟩), .slice (some ⟨w5.heap.size, 0, none⟩) 1 1, .pointer (some ⟨w.heap.size, 3, none⟩), .slice A n c, .slice A2 N c2, .slice A3 4 c3, .slice A4 M c4, .slice A5 (1 + M) c5, .pointer (some ⟨w.heap.size + 1 + 1 + 1, 3, none⟩), .pointer (some ⟨w.heap.size + 1 + 1 + 1, 3, none⟩), .slice A5 (1 + M) c5, .pointer (some ⟨w.heap.size, 3, none⟩), .slice A n c, undef, undef, undef, undef, undef, undef, undef, undef, undef], []⟩ _)
  · intro u hu
    obtain ⟨⟨hx, ht, ho, hh, hb⟩, hz⟩ := hu
    have c3 := hx.cell 3 rfl
    go_simp
  refine HT.take 4 (.pointer (some ⟨w.heap.size, 2, none⟩)) rfl (by kernel_rfl) (fun _ _ _ h => h) (Or.inl ⟨by rfl, ?_⟩) (?_ : HT _ _ _ _ _ _ _ ⟨#[.agg #[.string s, .string r, .int .i64 m, .slice A n c], .agg #[.string host, .int .i64 port, .string path], .string via, .pointer (some ⟨w.heap.size, 0, none⟩), .pointer (some ⟨w.heap.size + 1, 0, none⟩), undef, .pointer (some ⟨w.heap.size + 1 + 1, 0, none⟩), .pointer (some ⟨w.heap.size + 1 + 1 + 1, 0, none⟩), .string (host ++ (⟨#[58]⟩ ++ I)), .pointer (some ⟨w.heap.size, 0, none⟩), .string s, .pointer (some ⟨w.heap.size + 1, 2, none⟩), .string path, .agg #[.string s, .string path, .int .i64 1, .slice none 0 0], .pointer (some ⟨w.heap.size + 1, 2, none⟩), .string path, .bool false, undef, .pointer (some ⟨w.heap.size + 1, 0, none⟩), .string host, .pointer (some ⟨w.heap.size + 1, 1, none⟩), .int .i64 port, .bool true, .string host, .pointer (some ⟨w.heap.size + 1, 1, none⟩), .int .i64 port, .string I, .string (⟨#[58]⟩ ++ I), .string (host ++ (⟨#[58]⟩ ++ I)), .string (host ++ (⟨#[58]⟩ ++ I)), .agg #[.string ⟨#[72, 111, 115, 116]⟩, .string (host ++ (⟨#[58]⟩ ++ I))], .slice (some ⟨w5.heap.size, 0, none⟩) 1 1, .pointer (some ⟨w.heap.size + 1 + 1 + 1, 3, none⟩), .pointer (some ⟨w.heap.size + 1 + 1 + 1, 3, none⟩), .slice (some ⟨w5.heap.size, 0, none⟩) 1 1, .pointer (some ⟨w.heap.size, 3, none⟩), .slice A n c, .slice A2 N c2, .slice A3 4 c3, .slice A4 M c4, .slice A5 (1 + M) c5, .pointer (some ⟨w.heap.size + 1 + 1 + 1, 3, none⟩), .pointer (some ⟨w.heap.size + 1 + 1 + 1, 3, none⟩), .slice A5 (1 + M) c5, .pointer (some ⟨w.heap.size, 3, none⟩), .slice A n c, .pointer (some ⟨w.heap.size, 2, none⟩), undef, undef, undef, undef, undef, undef, undef, undef], []⟩ _)
  · intro u hu
    go_simp
  refine HT.take 5 (.int .i64 m) rfl (by kernel_rfl) (fun _ _ _ h => h) (Or.inl ⟨by rfl, ?_⟩) (?_ : HT _ _ _ _ _ _ _ ⟨#[.agg #[.string s, .string r, .int .i64 m, .slice A n c], .agg #[.string host, .int .i64 port, .string path], .string via, .pointer (some ⟨w.heap.size, 0, none⟩), .pointer (some ⟨w.heap.size + 1, 0, none⟩), undef, .pointer (some ⟨w.heap.size + 1 + 1, 0, none⟩), .pointer (some ⟨w.heap.size + 1 + 1 + 1, 0, none⟩), .string (host ++ (⟨#[58]⟩ ++ I)), .pointer (some ⟨w.heap.size, 0, none⟩), .string s, .pointer (some ⟨w.heap.size + 1, 2, none⟩), .string path, .agg #[.string s, .string path, .int .i64 1, .slice none 0 0], .pointer (some ⟨w.heap.size + 1, 2, none⟩), .string path, .bool false, undef, .pointer (some ⟨w.heap.size + 1, 0, none⟩), .string host, .pointer (some ⟨w.heap.size + 1, 1, none⟩), .int .i64 port, .bool true, .string host, .pointer (some ⟨w.heap.size + 1, 1, none⟩), .int .i64 port, .string I, .string (⟨#[58]⟩ ++ I), .string (host ++ (⟨#[58]⟩ ++ I)), .string (host ++ (⟨#[58]⟩ ++ I)), .agg #[.string ⟨#[72, 111, 115, 116]⟩, .string (host ++ (⟨#[58]⟩ ++ I))], .slice (some ⟨w5.heap.size, 0, none⟩) 1 1, .pointer (some ⟨w.heap.size + 1 + 1 + 1, 3, none⟩), .pointer (some ⟨w.heap.size + 1 + 1 + 1, 3, none⟩), .slice (some ⟨w5.heap.size, 0, none⟩) 1 1, .pointer (some ⟨w.heap.size, 3, none⟩), .slice A n c, .slice A2 N c2, .slice A3 4 c3, .slice A4 M c4, .slice A5 (1 + M) c5, .pointer (some ⟨w.heap.size + 1 + 1 + 1, 3, none⟩), .pointer (some ⟨w.heap.size + 1 + 1 + 1, 3, none⟩), .slice A5 (1 + M) c5, .pointer (some ⟨w.heap.size, 3, none⟩), .slice A n c, .pointer (some ⟨w.heap.size, 2, none⟩), .int .i64 m, undef, undef, undef, undef, undef, undef, undef], []⟩ _)
  · intro u hu
    obtain ⟨⟨hx, ht, ho, hh, hb⟩, hz⟩ := hu
    have c2 := hx.cell 2 rfl
    go_simp
  refine HT.take 6 (.string via) rfl (by kernel_rfl) (fun _ _ _ h => h) (Or.inl ⟨by rfl, ?_⟩) (?_ : HT _ _ _ _ _ _ _ ⟨#[.agg #[.string s, .string r, .int .i64 m, .slice A n c], .agg #[.string host, .int .i64 port, .string path], .string via, .pointer (some ⟨w.heap.size, 0, none⟩), .pointer (some ⟨w.heap.size + 1, 0, none⟩), undef, .pointer (some ⟨w.heap.size + 1 + 1, 0, none⟩), .pointer (some ⟨w.heap.size + 1 + 1 + 1, 0, none⟩), .string (host ++ (⟨#[58]⟩ ++ I)), .pointer (some ⟨w.heap.size, 0, none⟩), .string s, .pointer (some ⟨w.heap.size + 1, 2, none⟩), .string path, .agg #[.string s, .string path, .int .i64 1, .slice none 0 0], .pointer (some ⟨w.heap.size + 1, 2, none⟩), .string path, .bool false, undef, .pointer (some ⟨w.heap.size + 1, 0, none⟩), .string host, .pointer (some ⟨w.heap.size + 1, 1, none⟩), .int .i64 port, .bool true, .string host, .pointer (some ⟨w.heap.size + 1, 1, none⟩), .int .i64 port, .string I, .string (⟨#[58]⟩ ++ I), .string (host ++ (⟨#[58]⟩ ++ I)), .string (host ++ (⟨#[58]⟩ ++ I)), .agg #[.string ⟨#[72, 111, 115, 116]⟩, .string (host ++ (⟨#[58]⟩ ++ I))], .slice (some ⟨w5.heap.size, 0, none⟩) 1 1, .pointer (some ⟨w.heap.size + 1 + 1 + 1, 3, none⟩), .pointer (some ⟨w.heap.size + 1 + 1 + 1, 3, none⟩), .slice (some ⟨w5.heap.size, 0, none⟩) 1 1, .pointer (some ⟨w.heap.size, 3, none⟩), .slice A n c, .slice A2 N c2, .slice A3 4 c3, .slice A4 M c4, .slice A5 (1 + M) c5, .pointer (some ⟨w.heap.size + 1 + 1 + 1, 3, none⟩), .pointer (some ⟨w.heap.size + 1 + 1 + 1, 3, none⟩), .slice A5 (1 + M) c5, .pointer (some ⟨w.heap.size, 3, none⟩), .slice A n c, .pointer (some ⟨w.heap.size, 2, none⟩), .int .i64 m, .string via, undef, undef, undef, undef, undef, undef], []⟩ _)
  · intro u hu
    go_simp
  refine HT.step 7 rfl (by kernel_rfl) (fun hS K hK => ?_)
  go_simp
  refine (hV.out _ hS.1.2.2.2.2).mono ?_
  rintro e w10 ⟨rfl, hb10⟩
  refine hK.out _ _ ⟨hS.1.below hb10, hS.2.below hb10⟩ ?_
  clear hK hS hb10
  refine HT.take 8 (.agg #[.string ⟨#[86, 105, 97]⟩, .string V]) rfl (by kernel_rfl) (fun _ _ _ h => h) (Or.inl ⟨by rfl, ?_⟩) (?_ : HT _ _ _ _ _ _ _ ⟨#[.agg #[.string s, .string r, .int .i64 m, .slice A n c], .agg #[.string host, .int .i64 port, .string path], .string via, .pointer (some ⟨w.heap.size, 0, none⟩), .pointer (some ⟨w.heap.size + 1, 0, none⟩), undef, .pointer (some ⟨w.heap.size + 1 + 1, 0, none⟩), .pointer (some ⟨w.heap.size + 1 + 1 + 1, 0, none⟩), .string (host ++ (⟨#[58]⟩ ++ I)), .pointer (some ⟨w.heap.size, 0, none⟩), .string s, .pointer (some ⟨w.heap.size + 1, 2, none⟩), .string path, .agg #[.string s, .string path, .int .i64 1, .slice none 0 0], .pointer (some ⟨w.heap.size + 1, 2, none⟩), .string path, .bool false, undef, .pointer (some ⟨w.heap.size + 1, 0, none⟩), .string host, .pointer (some ⟨w.heap.size + 1, 1, none⟩), .int .i64 port, .bool true, .string host, .pointer (some ⟨w.heap.size + 1, 1, none⟩), .int .i64 port, .string I, .string (⟨#[58]⟩ ++ I), .string (host ++ (⟨#[58]⟩ ++ I)), .string (host ++ (⟨#[58]⟩ ++ I)), .agg #[.string ⟨#[72, 111, 115, 116]⟩, .string (host ++ (⟨#[58]⟩ ++ I))], .slice (some ⟨w5.heap.size, 0, none⟩) 1 1, .pointer (some ⟨w.heap.size + 1 + 1 + 1, 3, none⟩), .pointer (some ⟨w.heap.size + 1 + 1 + 1, 3, none⟩), .slice (some ⟨w5.heap.size, 0, none⟩) 1 1, .pointer (some ⟨w.heap.size, 3, none⟩), .slice A n c, .slice A2 N c2, .slice A3 4 c3, .slice A4 M c4, .slice A5 (1 + M) c5, .pointer (some ⟨w.heap.size + 1 + 1 + 1, 3, none⟩), .pointer (some ⟨w.heap.size + 1 + 1 + 1, 3, none⟩), .slice A5 (1 + M) c5, .pointer (some ⟨w.heap.size, 3, none⟩), .slice A n c, .pointer (some ⟨w.heap.size, 2, none⟩), .int .i64 m, .string via, .string V, .agg #[.string ⟨#[86, 105, 97]⟩, .string V], undef, undef, undef, undef], []⟩ _)
  · intro u hu
    go_simp
  refine HT.step 9 rfl (by kernel_rfl) (fun hS K hK => ?_)
  go_simp
  refine hK.out _ _ ⟨hS.1.below ((Below.refl _ _).alloc (Nat.le_refl _) _), hS.2.alloc _⟩ ?_
  clear hK hS
  refine HT.tail _ rfl rfl (by kernel_rfl) (fun hS => ?_)
  have HS10 := Lib.hid hS
  clear hS HT9 HR9 hS1
  have hz10 : w.heap.size + 4 ≤ w10.heap.size + 1 := by have := HS10.out.1.2.2.2.1.lt; rw [World.size_alloc] at this; omega
  refine appF _ rfl (.tmp 43) (.tmp 51) rfl (w.heap.size + 4) A5 (1 + M) c5 ([(F.hostN, (host ++ (⟨#[58]⟩ ++ I)))] ++ U) rfl HS10.out.2 _ 1 1 [(F.via3, V)] rfl (newF _ (F.via3, V)) (by omega) (by rw [World.size_alloc]; omega) ?_
  intro A6 c6 w11 hr6 ha6
  have HS11 := Lib.hid (HS10.out.1.app ha6 HS10.out.2 (Nat.le_refl _) (by rw [World.size_alloc]; omega))
  have d3 := HS11.out.2.2.2.1.cell 3 (v := .slice A5 (1 + M) c5) rfl
  have g3 := HS11.out.2.2.2.1.free 3
  have HT11 : Hid (ReqR w #[.string s, .string r, .int .i64 m, .slice A n c] #[.string host, .int .i64 port, .string path] #[.string ⟨#[]⟩, .string ⟨#[]⟩, .int .i64 0, .slice none 0 0] #[.string s, .string path, .int .i64 1, .slice A6 (1 + M + 1) c6] (w11.setCell ⟨w.heap.size + 1 + 1 + 1, 3, none⟩ (.slice A6 (1 + M + 1) c6))) := Lib.hid ⟨HS11.out.1.far (b' := w.heap.size + 1 + 1 + 1) 3 _ (by omega), HS11.out.2.1.far (b' := w.heap.size + 1 + 1 + 1) 3 _ (by omega), HS11.out.2.2.1.far (b' := w.heap.size + 1 + 1 + 1) 3 _ (by omega), HS11.out.2.2.2.1.set 3 _, below_set HS11.out.2.2.2.2 (b := w.heap.size + 1 + 1 + 1) (by omega) 3 _⟩
  have HR11 := Lib.hid (hr6.farT HS11.out.2.2.2.1 (by decide) 3 (.slice A6 (1 + M + 1) c6))
  obtain ⟨x0, x1, x2, x3⟩ := HT11.out.2.2.2.1.cells4
  obtain ⟨o0, o1, o2, o3⟩ := HT11.out.2.2.1.cells4
  obtain ⟨f0, f1, f2, f3⟩ := HT11.out.2.2.1.free4
  clear ha6 hr6 HS10 HS11
  go_wp2
  refine NoPanic.normal ?_
  clear d3 g3
  generalize w11.setCell ⟨w.heap.size + 1 + 1 + 1, 3, none⟩ (.slice A6 (1 + M + 1) c6) = w12 at *
  go_wp2
  have hk := HT11.out.2.2.1.set4 (.string s) (.string path) (.int .i64 1) (.slice A6 (1 + M + 1) c6)
  have hr := HR11.out.farT4 HT11.out.2.2.1 (by decide) (.string s) (.string path) (.int .i64 1) (.slice A6 (1 + M + 1) c6)
  have hb := below_four HT11.out.2.2.2.2 (b := w.heap.size + 1 + 1) (by omega) (.string s) (.string path) (.int .i64 1) (.slice A6 (1 + M + 1) c6)
  clear x0 x1 x2 x3 o0 o1 o2 o3 f0 f1 f2 f3 HT11 HR11
  generalize ((((w12.setCell ⟨w.heap.size + 1 + 1, 0, none⟩ (.string s)).setCell ⟨w.heap.size + 1 + 1, 1, none⟩ (.string path)).setCell ⟨w.heap.size + 1 + 1, 2, none⟩ (.int .i64 1)).setCell ⟨w.heap.size + 1 + 1, 3, none⟩ (.slice A6 (1 + M + 1) c6)) = W at *
  obtain ⟨d0, d1, d2, d3⟩ := hk.cells4
  refine bodyPost_ret (v := .agg #[.string s, .string path, .int .i64 1, .slice A6 (1 + M + 1) c6]) (by simp [results, Tryd.results36, go_sem, d0, d1, d2, d3]) rfl ?_
  rw [HPV.out]
  refine ⟨A6, c6, by rw [HPL.out], ?_, hb⟩
  rw [HPL.out, HPP.out]
  exact hr.mono (by omega)
end Go.Proofs.YtcoohkgamogmgaaDoor
