/- The cursor that the draws read: one step of it. -/
import Derived.Test.YtndenojanflkgaaCl3
import Derived.Test.YtndenojanflkgaaCl0
import Derived.IntWalk
import Derived.Laws.Bits64
import Derived.Laws.Bits64b
import Derived.Deep.Cut
import Derived.Test.YtndenojanflkgaaCl5
namespace Go.G9
open Go.RowKit
theorem wrap64u (n : Int) : 0 ≤ IntKind.u64.wrap n ∧ IntKind.u64.wrap n < 18446744073709551616 := by
  rw [IntKind.wrap_u64]; omega
theorem and255 {s : Int} (h0 : 0 ≤ s) (h1 : s < 18446744073709551616) : 0 ≤ wrap64 (bits .and .u64 (s / 1099511627776) 255) ∧ wrap64 (bits .and .u64 (s / 1099511627776) 255) ≤ 255 := by
  obtain ⟨n, hn⟩ : ∃ n : Nat, (n : Int) = s / 1099511627776 := ⟨(s / 1099511627776).toNat, by omega⟩
  have h2 := bits_and_u64_nat n 255 (by omega) (by omega)
  rw [← hn, show (255 : Int) = ((255 : Nat) : Int) from rfl, h2]
  have h3 : n &&& 255 ≤ 255 := Nat.and_le_right
  unfold wrap64
  omega
theorem _root_.Go.G9.Blk.grownB {w w' : World} {g p : Nat} {t : TypeId} {cs : Array Value} (h : Blk w g t cs) (hg : w.grownBy w' (some p)) (hne : g ≠ p) : Blk w' g t cs :=
  (hg.block g h.lt (fun e => hne (Option.some.inj e))).trans h
theorem grown_store {w W : World} {p g : Nat} (h : w.grownBy W (some p)) (hg : w.heap.size ≤ g) (j : Nat) (u : Value) : w.grownBy (W.setCell ⟨g, j, none⟩ u) (some p) :=
  ⟨h.os, h.tape, h.output, by simpa [World.setCell] using h.size, fun i hi hne => (Below.heap_setCell W _ u i (by show i ≠ g; omega)).trans (h.block i hi hne)⟩
theorem rds_far {T : Type} {sz : Nat} {f : T → List Value} {w w' : World} {A : Option Addr} {xs : List T} {p : Nat} (h : Rds sz f w A xs) (hg : w.grownBy w' (some p)) (hne : ∀ ad, A = some ad → 0 < xs.length → ad.block ≠ p) : Rds sz f w' A xs := by
  by_cases hn : 0 < xs.length
  · exact h.grown hg (fun ad ha e => hne ad ha hn (Option.some.inj e))
  · have : xs = [] := List.length_eq_zero_iff.1 (by omega)
    subst this; exact Rds.nil
def u8C (x : UInt8) : List Value := [.int .u8 (x.toNat : Int)]
theorem u8C_len (y : UInt8) : (u8C y).length = 1 := rfl
end Go.G9
namespace Go.Proofs.Ytndenojanflkgaa
open Go.RowKit Go.G9
/-- The cursor at p over the code cs, at N at most. -/
structure Cur (w : World) (p : Nat) (A : Option Addr) (c : Nat) (cs : List UInt8) (N : Nat) : Prop where
  box : ∃ (i s : Int), Blk w p 45 #[.slice A cs.length c, .int .i64 i, .int .u64 s] ∧ 0 ≤ i ∧ i ≤ N
  rds : Rds 1 u8C w A cs
  lo : ∀ ad, A = some ad → 0 < cs.length → ad.block < p
set_option maxHeartbeats 1000000 in
set_option maxRecDepth 100000 in
theorem next_is (p : Nat) (A : Option Addr) (c : Nat) (cs : List UInt8) (hcs : cs.length ≤ 1048576) (N : Nat) (hN : N ≤ 1000000) (w : World) (h : Cur w p A c cs N) :
  Calls Try.prog 51 #[.pointer (some ⟨p, 0, none⟩)] w fun e w' => ∃ r : Int, e = .returned (.int .i64 r) ∧ 0 ≤ r ∧ r ≤ 255 ∧ Cur w' p A c cs (N + 1) ∧ w.grownBy w' (some p) := by
  obtain ⟨⟨i, s, hB, hi0, hi1⟩, hR, hlo⟩ := h
  have hne : ∀ ad, A = some ad → 0 < cs.length → ad.block ≠ p := fun ad h1 h2 => Nat.ne_of_lt (hlo ad h1 h2)
  obtain ⟨k, rfl⟩ : ∃ k : Nat, i = k := ⟨i.toNat, by omega⟩
  have hl := hB.lt
  have x0 := fun K : Kin w.heap.size w => ((hB.below K.below hB.lt).cell 0).trans (show _ = some (.slice A cs.length c) from rfl)
  have x1 := fun K : Kin w.heap.size w => ((hB.below K.below hB.lt).cell 1).trans (show _ = some (.int .i64 (k : Int)) from rfl)
  have x2 := fun K : Kin w.heap.size w => ((hB.below K.below hB.lt).cell 2).trans (show _ = some (.int .u64 s) from rfl)
  by_cases hlt : k < cs.length
  · obtain ⟨b0, off0, x', hA0, hbl0, hx0, hcx0⟩ := hR.at_ (Below.refl _ _) hlt
    have f0 := hcx0 0 _ rfl
    clear hx0 hcx0 hA0 hbl0
    go_enter Try.func51, Try.ntmps51
    go_wp2
    refine wp_region_kin (by kernel_rfl) (by kernel_rfl) ?_
    repeat (go_big_quiet_step ((fail)))
    refine wpQuiet_nil ?_
    intro K0
    have hq0 := K0.below
    have hB0 := hB.below K0.below hl
    have hg0 : w.grownBy K0.world (some p) := below_grown K0.below _
    have hR0 := hR.below K0.below
    clear x0 x1 x2 f0
    generalize K0.world = W0 at *
    obtain ⟨b, off, x, hA, hbl, hx, hcx⟩ := hR0.at_ (Below.refl _ _) hlt
    have f0 := hcx 0 _ rfl
    simp only [Nat.mul_one, Nat.add_zero] at f0
    have hx2 := x.toNat_lt
    have hx3 : (x.toNat : Int) ≤ 255 := by omega
    have hx4 : (0 : Int) ≤ (x.toNat : Int) := by omega
    have HX := Lib.hid hx
    subst hA
    clear hx hcx hx2
    have yl0 := hB0.lt
    have x0 := fun K : Kin W0.heap.size W0 => ((hB0.below K.below hB0.lt).cell 0).trans (show _ = some (.slice (some ⟨b, off, none⟩) cs.length c) from rfl)
    have x1 := fun K : Kin W0.heap.size W0 => ((hB0.below K.below hB0.lt).cell 1).trans (show _ = some (.int .i64 (k : Int)) from rfl)
    go_wp2
    refine wp_region_kin (by kernel_rfl) (by kernel_rfl) ?_
    repeat (go_big_quiet_step ((fail)))
    refine wpQuiet_nil ?_
    intro K
    go_upto_region 4 with fail
    clear x0 x1 f0
    have hB4 := hB0.below K.below yl0
    have hg4 := grown_tr hg0 (below_grown K.below (some p))
    generalize K.world = W at *
    have y := hB4.lt
    have x1 := (hB4.cell 1).trans (show _ = some (.int .i64 (k : Int)) from rfl)
    have f1 := hB4.frozen 1
    go_upto_region 5 with fail
    clear x1 f1
    replace hB4 : Blk (World.setCell W ⟨p, 1, none⟩ (.int .i64 ((k : Int) + 1))) p 45 #[.slice (some ⟨b, off, none⟩) cs.length c, .int .i64 ((k : Int) + 1), .int .u64 s] := hB4.set_ 1 _
    replace hg4 := grown_set (j := 1) hg4 (.int .i64 ((k : Int) + 1))
    generalize World.setCell W ⟨p, 1, none⟩ (.int .i64 ((k : Int) + 1)) = W1 at *
    replace y := hB4.lt
    have x2 := (hB4.cell 2).trans (show _ = some (.int .u64 s) from rfl)
    have f2 := hB4.frozen 2
    go_upto_region 6 with fail
    clear x2 f2
    obtain ⟨s2, hs2⟩ : ∃ s2, s2 = IntKind.u64.wrap (IntKind.u64.wrap (IntKind.u64.wrap (s * 6364136223846793005) + (x.toNat : Int)) + 909909) := ⟨_, rfl⟩
    have hw := wrap64u (IntKind.u64.wrap (IntKind.u64.wrap (s * 6364136223846793005) + (x.toNat : Int)) + 909909)
    rw [← hs2] at hw ⊢
    clear hs2
    replace hB4 : Blk (World.setCell W1 ⟨p, 2, none⟩ (.int .u64 s2)) p 45 #[.slice (some ⟨b, off, none⟩) cs.length c, .int .i64 ((k : Int) + 1), .int .u64 s2] := hB4.set_ 2 _
    replace hg4 := grown_set (j := 2) hg4 (.int .u64 s2)
    generalize World.setCell W1 ⟨p, 2, none⟩ (.int .u64 s2) = W2 at *
    replace y := hB4.lt
    have x0 := fun K : Kin W2.heap.size W2 => ((hB4.below K.below hB4.lt).cell 0).trans (show _ = some (.slice (some ⟨b, off, none⟩) cs.length c) from rfl)
    have x1 := fun K : Kin W2.heap.size W2 => ((hB4.below K.below hB4.lt).cell 1).trans (show _ = some (.int .i64 ((k : Int) + 1)) from rfl)
    have hle : (k : Int) + 1 ≤ (cs.length : Int) := by omega
    go_wp2
    refine wp_region_kin (by kernel_rfl) (by kernel_rfl) ?_
    repeat (go_big_quiet_step ((fail)))
    refine wpQuiet_nil ?_
    intro K2
    clear x0 x1
    have hB6 := hB4.below K2.below y
    have hg6 := grown_tr hg4 (below_grown K2.below (some p))
    generalize K2.world = W3 at *
    replace y := hB6.lt
    have x2 := (hB6.cell 2).trans (show _ = some (.int .u64 s2) from rfl)
    go_wp2
    go_ret
    refine ⟨_, rfl, ?_, ?_, ⟨⟨_, _, hB6, by omega, by omega⟩, rds_far hR hg6 hne, hlo⟩, hg6⟩
    · exact hx4
    · exact hx3
  · go_enter Try.func51, Try.ntmps51
    go_wp2
    refine wp_region_kin (by kernel_rfl) (by kernel_rfl) ?_
    repeat (go_big_quiet_step ((fail)))
    refine wpQuiet_nil ?_
    intro K
    go_upto_region 4 with fail
    clear x0 x1 x2
    have hB4 := hB.below K.below hl
    have hg4 : w.grownBy K.world (some p) := below_grown K.below _
    generalize K.world = W at *
    have y := hB4.lt
    have x1 := (hB4.cell 1).trans (show _ = some (.int .i64 (k : Int)) from rfl)
    have f1 := hB4.frozen 1
    go_upto_region 5 with fail
    clear x1 f1
    replace hB4 : Blk (World.setCell W ⟨p, 1, none⟩ (.int .i64 ((k : Int) + 1))) p 45 #[.slice A cs.length c, .int .i64 ((k : Int) + 1), .int .u64 s] := hB4.set_ 1 _
    replace hg4 := grown_set (j := 1) hg4 (.int .i64 ((k : Int) + 1))
    generalize World.setCell W ⟨p, 1, none⟩ (.int .i64 ((k : Int) + 1)) = W1 at *
    replace y := hB4.lt
    have x2 := (hB4.cell 2).trans (show _ = some (.int .u64 s) from rfl)
    have f2 := hB4.frozen 2
    go_upto_region 6 with fail
    clear x2 f2
    obtain ⟨s2, hs2⟩ : ∃ s2, s2 = IntKind.u64.wrap (IntKind.u64.wrap (IntKind.u64.wrap (s * 6364136223846793005)) + 909909) := ⟨_, rfl⟩
    have hw := wrap64u (IntKind.u64.wrap (IntKind.u64.wrap (s * 6364136223846793005)) + 909909)
    rw [← hs2] at hw ⊢
    clear hs2
    replace hB4 : Blk (World.setCell W1 ⟨p, 2, none⟩ (.int .u64 s2)) p 45 #[.slice A cs.length c, .int .i64 ((k : Int) + 1), .int .u64 s2] := hB4.set_ 2 _
    replace hg4 := grown_set (j := 2) hg4 (.int .u64 s2)
    generalize World.setCell W1 ⟨p, 2, none⟩ (.int .u64 s2) = W2 at *
    replace y := hB4.lt
    have x0 := fun K : Kin W2.heap.size W2 => ((hB4.below K.below hB4.lt).cell 0).trans (show _ = some (.slice A cs.length c) from rfl)
    have x1 := fun K : Kin W2.heap.size W2 => ((hB4.below K.below hB4.lt).cell 1).trans (show _ = some (.int .i64 ((k : Int) + 1)) from rfl)
    have hgt : ¬ (k : Int) + 1 ≤ (cs.length : Int) := by omega
    go_wp2
    refine wp_region_kin (by kernel_rfl) (by kernel_rfl) ?_
    repeat (go_big_quiet_step ((fail)))
    refine wpQuiet_nil ?_
    intro K2
    clear x0 x1
    have hB6 := hB4.below K2.below y
    have hg6 := grown_tr hg4 (below_grown K2.below (some p))
    generalize K2.world = W3 at *
    replace y := hB6.lt
    have x2 := (hB6.cell 2).trans (show _ = some (.int .u64 s2) from rfl)
    go_wp2
    go_ret
    refine ⟨_, rfl, ?_, ?_, ⟨⟨_, _, hB6, by omega, by omega⟩, rds_far hR hg6 hne, hlo⟩, hg6⟩
    · exact (and255 hw.1 hw.2).1
    · exact (and255 hw.1 hw.2).2
theorem Cur.mono {w : World} {p : Nat} {A : Option Addr} {c : Nat} {cs : List UInt8} {N M : Nat} (h : Cur w p A c cs N) (hM : N ≤ M) : Cur w p A c cs M := by
  obtain ⟨⟨i, s, hB, h0, h1⟩, hR, hne⟩ := h
  exact ⟨⟨i, s, hB, h0, by omega⟩, hR, hne⟩
theorem Cur.lt {w : World} {p : Nat} {A : Option Addr} {c : Nat} {cs : List UInt8} {N : Nat} (h : Cur w p A c cs N) : p < w.heap.size := by
  obtain ⟨⟨i, s, hB, h0, h1⟩, hR, hne⟩ := h
  exact hB.lt
/-- The cursor behind what makes memory. -/
theorem Cur.later {w w' : World} {p : Nat} {A : Option Addr} {c : Nat} {cs : List UInt8} {N : Nat} (h : Cur w p A c cs N) (hb : Below w.heap.size w w') : Cur w' p A c cs N := by
  obtain ⟨⟨i, s, hB, h0, h1⟩, hR, hne⟩ := h
  exact ⟨⟨i, s, hB.below hb hB.lt, h0, h1⟩, hR.below hb, hne⟩
/-- The cursor behind a store elsewhere. -/
theorem Cur.store {w : World} {p : Nat} {A : Option Addr} {c : Nat} {cs : List UInt8} {N : Nat} (h : Cur w p A c cs N) {g : Nat} (hg : p < g) (j : Nat) (u : Value) : Cur (w.setCell ⟨g, j, none⟩ u) p A c cs N := by
  obtain ⟨⟨i, s, hB, h0, h1⟩, hR, hne⟩ := h
  have hgr := grown_set (j := j) (g := g) (grown_refl w (some g)) u
  exact ⟨⟨i, s, hB.grownB hgr (by omega), h0, h1⟩, rds_far hR hgr (fun ad h2 h3 => by have := hne ad h2 h3; omega), hne⟩
/-- What a method of the cursor leaves: the cursor some steps on, all else as it was. -/
def Stepped (w w' : World) (p : Nat) (A : Option Addr) (c : Nat) (cs : List UInt8) (N : Nat) : Prop := Cur w' p A c cs N ∧ w.grownBy w' (some p)
theorem Stepped.size {w w' : World} {p : Nat} {A : Option Addr} {c : Nat} {cs : List UInt8} {N : Nat} (h : Stepped w w' p A c cs N) : w.heap.size ≤ w'.heap.size := h.2.size
theorem stepped_tr {w w1 w2 : World} {p : Nat} {A : Option Addr} {c : Nat} {cs : List UInt8} {N M : Nat} (h : Stepped w w1 p A c cs N) (k : Stepped w1 w2 p A c cs M) : Stepped w w2 p A c cs M := ⟨k.1, grown_tr h.2 k.2⟩
theorem stepped_mk {w w1 w2 : World} {p : Nat} {A : Option Addr} {c : Nat} {cs : List UInt8} {N : Nat} (h : Stepped w w1 p A c cs N) (k : Below w1.heap.size w1 w2) : Stepped w w2 p A c cs N := ⟨h.1.later k, grown_tr h.2 (below_grown k _)⟩
theorem stepped_pre {w w1 w2 : World} {p : Nat} {A : Option Addr} {c : Nat} {cs : List UInt8} {N : Nat} (k : Below w.heap.size w w1) (h : Stepped w1 w2 p A c cs N) : Stepped w w2 p A c cs N := ⟨h.1, grown_tr (below_grown k _) h.2⟩
theorem stepped_mono {w w1 : World} {p : Nat} {A : Option Addr} {c : Nat} {cs : List UInt8} {N M : Nat} (h : Stepped w w1 p A c cs N) (hM : N ≤ M) : Stepped w w1 p A c cs M := ⟨h.1.mono hM, h.2⟩
set_option maxHeartbeats 1000000 in
set_option maxRecDepth 100000 in
theorem pick_is (n : Int) (p : Nat) (A : Option Addr) (c : Nat) (cs : List UInt8) (hcs : cs.length ≤ 1048576) (N : Nat) (hN : N ≤ 900000) (hn : n ≤ 1000000000) (w : World) (h : Cur w p A c cs N) :
  Calls Try.prog 39 #[.pointer (some ⟨p, 0, none⟩), .int .i64 n] w fun e w' => ∃ r : Int, e = .returned (.int .i64 r) ∧ (0 ≤ r ∧ (n ≤ 1 → r = 0) ∧ (1 < n → r < n)) ∧ Stepped w w' p A c cs (N + 2) := by
  by_cases h1 : n ≤ 1
  · go_enter Try.func39, Try.ntmps39
    go_wp2
    go_ret
    exact ⟨0, rfl, ⟨by omega, fun _ => rfl, fun _ => by omega⟩, h.mono (by omega), grown_refl _ _⟩
  · by_cases h2 : n ≤ 200
    · have h2' : ¬ 200 < n := by omega
      go_enter Try.func39, Try.ntmps39
      go_wp2_with fail
      refine (next_is p A c cs hcs N (by omega) _ h).mono ?_
      rintro e w1 ⟨r, rfl, hr0, hr1, hC, hg⟩
      go_wp2
      go_ret
      exact ⟨_, rfl, ⟨Int.emod_nonneg _ (by omega), fun h => by omega, fun _ => Int.emod_lt_of_pos _ (by omega)⟩, hC.mono (by omega), hg⟩
    · have h2' : 200 < n := by omega
      go_enter Try.func39, Try.ntmps39
      go_wp2_with fail
      refine (next_is p A c cs hcs N (by omega) _ h).mono ?_
      rintro e w1 ⟨r, rfl, hr0, hr1, hC, hg⟩
      go_wp2_with fail
      refine (next_is p A c cs hcs (N + 1) (by omega) _ hC).mono ?_
      rintro e w2 ⟨r2, rfl, hr20, hr21, hC2, hg2⟩
      go_wp2
      go_ret
      exact ⟨_, rfl, ⟨Int.emod_nonneg _ (by omega), fun h => by omega, fun _ => Int.emod_lt_of_pos _ (by omega)⟩, hC2, grown_tr hg hg2⟩
theorem one_is (n : Int) (p : Nat) (A : Option Addr) (c : Nat) (cs : List UInt8) (hcs : cs.length ≤ 1048576) (N : Nat) (hN : N ≤ 900000) (hn : n ≤ 1000000000) (w : World) (h : Cur w p A c cs N) :
  Calls Try.prog 38 #[.pointer (some ⟨p, 0, none⟩), .int .i64 n] w fun e w' => ∃ b : Bool, e = .returned (.bool b) ∧ Stepped w w' p A c cs (N + 2) := by
  go_enter Try.func38, Try.ntmps38
  go_wp2_with fail
  refine (pick_is n p A c cs hcs N hN hn _ h).mono ?_
  rintro e w1 ⟨r, rfl, _, hS⟩
  go_wp2
  go_ret
  exact ⟨_, rfl, hS⟩
def bC (x : ByteArray) : List Value := [.string x]
theorem bC_len (y : ByteArray) : (bC y).length = 1 := rfl
set_option maxHeartbeats 1000000 in
set_option maxRecDepth 100000 in
theorem of_is (L : Option Addr) (lc : Nat) (xs : List ByteArray) (hx0 : 1 ≤ xs.length) (hx1 : xs.length ≤ 1000) (p : Nat) (A : Option Addr) (c : Nat) (cs : List UInt8) (hcs : cs.length ≤ 1048576) (N : Nat) (hN : N ≤ 900000) (w : World) (h : Cur w p A c cs N)
    (hL : Rds 1 bC w L xs) (hne : ∀ ad, L = some ad → 0 < xs.length → ad.block ≠ p) :
  Calls Try.prog 44 #[.pointer (some ⟨p, 0, none⟩), .slice L xs.length lc] w fun e w' => ∃ s, e = .returned (.string s) ∧ s ∈ xs ∧ Stepped w w' p A c cs (N + 2) := by
  go_enter Try.func44, Try.ntmps44
  go_wp2_with fail
  refine (pick_is xs.length p A c cs hcs N hN (by omega) _ h).mono ?_
  rintro e w1 ⟨r, rfl, ⟨hr0, hr1, hr2⟩, hS⟩
  have hr : r < xs.length := by
    by_cases h1 : (1 : Int) < xs.length
    · exact hr2 h1
    · rw [hr1 (by omega)]; omega
  obtain ⟨k, rfl⟩ : ∃ k : Nat, r = k := ⟨r.toNat, by omega⟩
  have hk : k < xs.length := by omega
  have hL1 := rds_far hL hS.2 hne
  obtain ⟨b, off, x, rfl, hbl, hx, hcx⟩ := hL1.at_ (Below.refl _ _) hk
  have f0 := hcx 0 _ rfl (Kin.self _)
  simp only [Nat.mul_one, Nat.add_zero, Kin.self] at f0
  have HX := Lib.hid hx
  clear hx hcx hr1 hr2 hL hL1
  go_wp2
  go_ret
  exact ⟨x, rfl, List.mem_of_getElem? HX.out, hS⟩
end Go.Proofs.Ytndenojanflkgaa
/- laws.vBig, vInts, vHas, vTexts. -/
namespace Go.Proofs.Ytndenojanflkgaa
open Go.RowKit Go.G9
theorem vBig_is (A : Option Addr) (c n : Nat) (v : Bool) (hv : decide (65536 < n) = v) (w : World) : Calls Try.prog 4 #[.slice A n c] w fun e w' => e = .returned (.bool v) ∧ w' = w := by
  subst hv
  go_enter Try.func4, Try.ntmps4
  go_wp2
  go_ret
  exact ⟨by first | rfl | (congr 2; simp; omega) | (refine ret_bool ?_; simp; omega), rfl⟩
set_option maxHeartbeats 1000000 in
theorem vInts_is (A A' : Option Addr) (c c' : Nat) (xs : List Int) (hn : xs.length ≤ 1048576) (w : World) (hR : Rds 1 intC w A xs) (hR' : Rds 1 intC w A' xs) :
  Calls Try.prog 8 #[.slice A xs.length c, .slice A' xs.length c'] w fun e w' => e = .returned (.bool true) ∧ Below w.heap.size w w' := by
  go_enter Try.func8, Try.ntmps8
  go_wp2
  go_loopw [5] (fun i wr => ∃ (k : Nat), k ≤ xs.length ∧ i = .int .i64 k ∧ Below w.heap.size w wr) (fun i _ => xs.length - (intOf i).toNat)
  case atStart => exact ⟨0, Nat.zero_le _, rfl, Below.refl _ _⟩
  case round =>
    obtain ⟨k, hk, rfl, hb⟩ := hrel
    by_cases hlt : k < xs.length
    · obtain ⟨b, off, x, rfl, hbl, hx, hcx⟩ := hR.at_ hb hlt
      obtain ⟨b', off', x', rfl, _, hx', hcx'⟩ := hR'.at_ hb hlt
      obtain rfl : x = x' := Option.some.inj (hx.symm.trans hx')
      have f0 := hcx 0 _ rfl
      have e0 := hcx' 0 _ rfl
      simp only [Nat.mul_one, Nat.add_zero] at f0 e0
      clear hx hcx hx' hcx'
      go_wp2
      refine wp_region_kin (by kernel_rfl) (by kernel_rfl) ?_
      repeat (go_big_quiet_step ((fail)))
      refine wpQuiet_nil ?_
      intro K
      go_wp2
      go_roundw
      case rel => exact ⟨k + 1, by omega, by go_num, bth hb K.below⟩
      case measure => simp [intOf]; omega
    · go_wp2
      go_ret
      exact ⟨rfl, hb⟩
set_option maxHeartbeats 1000000 in
theorem vHas_is (A : Option Addr) (c : Nat) (xs : List Int) (n : Int) (hn : xs.length ≤ 1048576) (v : Bool) (hv : hasB xs n = v) (w : World) (hR : Rds 1 intC w A xs) :
  Calls Try.prog 14 #[.slice A xs.length c, .int .i64 n] w fun e w' => e = .returned (.bool v) ∧ w' = w := by
  subst hv
  go_enter Try.func14, Try.ntmps14
  go_wp2
  go_loop [5] (fun i => ∃ k : Nat, k ≤ xs.length ∧ i = .int .i64 k ∧ allTo (fun i => !atB (fun x => x == n) xs i) k = true) (fun i => xs.length - (intOf i).toNat)
  case atStart => exact ⟨0, Nat.zero_le _, rfl, rfl⟩
  case round =>
    obtain ⟨k, hk, rfl, hl⟩ := hrel
    have HL := Lib.hid hl; clear hl
    by_cases hlt : k < xs.length
    · obtain ⟨b, off, x, rfl, hbl, hx, hcx⟩ := hR.at_ (Below.refl _ _) hlt
      have g0 := hcx 0 _ rfl (Kin.self _)
      simp only [Nat.mul_one, Nat.add_zero, Kin.self] at g0
      have HX := Lib.hid hx; clear hx hcx
      by_cases he : x = n
      · have he' : (x == n) = true := beq_iff_eq.2 he
        have HE := Lib.hid he; clear he
        go_wp2
        go_ret
        exact ⟨ret_bool (hasB_yes HX.out HE.out).symm, rfl⟩
      · have he' : (x == n) = false := beq_eq_false_iff_ne.2 he
        go_wp2
        go_round
        case rel => exact ⟨k + 1, by omega, by go_num, allTo_go HL.out (by simp [atB, HX.out, he])⟩
        case measure => simp [intOf]; omega
    · obtain rfl : k = xs.length := by omega
      go_wp2
      go_ret
      exact ⟨ret_bool (hasB_no HL.out).symm, rfl⟩
set_option maxHeartbeats 1000000 in
theorem vTexts_is (A A' : Option Addr) (c c' : Nat) (xs : List ByteArray) (hn : xs.length ≤ 1048576) (w : World) (hR : Rds 1 bC w A xs) (hR' : Rds 1 bC w A' xs) :
  Calls Try.prog 19 #[.slice A xs.length c, .slice A' xs.length c'] w fun e w' => e = .returned (.bool true) ∧ Below w.heap.size w w' := by
  go_enter Try.func19, Try.ntmps19
  go_wp2
  go_loopw [5] (fun i wr => ∃ (k : Nat), k ≤ xs.length ∧ i = .int .i64 k ∧ Below w.heap.size w wr) (fun i _ => xs.length - (intOf i).toNat)
  case atStart => exact ⟨0, Nat.zero_le _, rfl, Below.refl _ _⟩
  case round =>
    obtain ⟨k, hk, rfl, hb⟩ := hrel
    by_cases hlt : k < xs.length
    · obtain ⟨b, off, x, rfl, hbl, hx, hcx⟩ := hR.at_ hb hlt
      obtain ⟨b', off', x', rfl, _, hx', hcx'⟩ := hR'.at_ hb hlt
      obtain rfl : x = x' := Option.some.inj (hx.symm.trans hx')
      have f0 := hcx 0 _ rfl
      have e0 := hcx' 0 _ rfl
      simp only [Nat.mul_one, Nat.add_zero] at f0 e0
      clear hx hcx hx' hcx'
      go_wp2
      refine wp_region_kin (by kernel_rfl) (by kernel_rfl) ?_
      repeat (go_big_quiet_step ((fail)))
      refine wpQuiet_nil ?_
      intro K
      go_wp2
      go_roundw
      case rel => exact ⟨k + 1, by omega, by go_num, bth hb K.below⟩
      case measure => simp [intOf]; omega
    · go_wp2
      go_ret
      exact ⟨rfl, hb⟩
end Go.Proofs.Ytndenojanflkgaa
