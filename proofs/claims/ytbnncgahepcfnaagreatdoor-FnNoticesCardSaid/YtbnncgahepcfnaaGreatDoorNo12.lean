/- The cursor that the draws read: one step of it. -/
import Derived.Test.YtbnncgahepcfnaaGreatDoorNo6
import Derived.Test.YtbnncgahepcfnaaGreatDoorNo0
import Derived.Test.YtbnncgahepcfnaaGreatDoorNo3
import Derived.IntWalk
import Derived.Laws.Bits64
import Derived.Laws.Bits64b
import Derived.Deep.Cut
import Derived.Test.YtbnncgahepcfnaaGreatDoorNo5
import Derived.Test.YtbnncgahepcfnaaGreatDoorNo7
import Derived.Test.YtbnncgahepcfnaaGreatDoorNo4
import Derived.Lib.Split
import Derived.Lib.IndexBytes
namespace Go.G9
open Go.RowKit
theorem wrap64u (n : Int) : 0 ≤ IntKind.u64.wrap n ∧ IntKind.u64.wrap n < 18446744073709551616 := by
  rw [IntKind.wrap_u64]; omega
theorem and255 {s : Int} (h0 : 0 ≤ s) (h1 : s < 18446744073709551616) : 0 ≤ wrap64 (bits .and .u64 (s / 1099511627776) 255) ∧ wrap64 (bits .and .u64 (s / 1099511627776) 255) ≤ 255 := by
  obtain ⟨n, hn⟩ : ∃ n : Nat, (n : Int) = s / 1099511627776 := ⟨(s / 1099511627776).toNat, by omega⟩
  have h2 := bits_and_u64_nat n 255 (by omega) (by omega)
  rw [← hn, show (255 : Int) = ((255 : Nat) : Int) from rfl, h2]
  have h3 : n &&& 255 ≤ 255 := Nat.and_le_right
  unfold wrap64
  omega
theorem _root_.Go.G9.Blk.grownB {w w' : World} {g p : Nat} {t : TypeId} {cs : Array Value} (h : Blk w g t cs) (hg : w.grownBy w' (some p)) (hne : g ≠ p) : Blk w' g t cs :=
  (hg.block g h.lt (fun e => hne (Option.some.inj e))).trans h
theorem grown_store {w W : World} {p g : Nat} (h : w.grownBy W (some p)) (hg : w.heap.size ≤ g) (j : Nat) (u : Value) : w.grownBy (W.setCell ⟨g, j, none⟩ u) (some p) :=
  ⟨h.os, h.tape, h.output, by simpa [World.setCell] using h.size, fun i hi hne => (Below.heap_setCell W _ u i (by show i ≠ g; omega)).trans (h.block i hi hne)⟩
theorem rds_far {T : Type} {sz : Nat} {f : T → List Value} {w w' : World} {A : Option Addr} {xs : List T} {p : Nat} (h : Rds sz f w A xs) (hg : w.grownBy w' (some p)) (hne : ∀ ad, A = some ad → 0 < xs.length → ad.block ≠ p) : Rds sz f w' A xs := by
  by_cases hn : 0 < xs.length
  · exact h.grown hg (fun ad ha e => hne ad ha hn (Option.some.inj e))
  · have : xs = [] := List.length_eq_zero_iff.1 (by omega)
    subst this; exact Rds.nil
def u8C (x : UInt8) : List Value := [.int .u8 (x.toNat : Int)]
theorem u8C_len (y : UInt8) : (u8C y).length = 1 := rfl
end Go.G9
namespace Go.Proofs.YtbnncgahepcfnaaGreatDoor
open Go.RowKit Go.G9
/-- The cursor at p over the code cs, at N at most. -/
structure Cur (w : World) (p : Nat) (A : Option Addr) (c : Nat) (cs : List UInt8) (N : Nat) : Prop where
  box : ∃ (i s : Int), Blk w p 65 #[.slice A cs.length c, .int .i64 i, .int .u64 s] ∧ 0 ≤ i ∧ i ≤ N
  rds : Rds 1 u8C w A cs
  lo : ∀ ad, A = some ad → 0 < cs.length → ad.block < p
set_option maxHeartbeats 1000000 in
set_option maxRecDepth 100000 in
theorem next_is (p : Nat) (A : Option Addr) (c : Nat) (cs : List UInt8) (hcs : cs.length ≤ 1048576) (N : Nat) (hN : N ≤ 1000000) (w : World) (h : Cur w p A c cs N) :
  Calls Tryz.prog 105 #[.pointer (some ⟨p, 0, none⟩)] w fun e w' => ∃ r : Int, e = .returned (.int .i64 r) ∧ 0 ≤ r ∧ r ≤ 255 ∧ Cur w' p A c cs (N + 1) ∧ w.grownBy w' (some p) := by
  obtain ⟨⟨i, s, hB, hi0, hi1⟩, hR, hlo⟩ := h
  have hne : ∀ ad, A = some ad → 0 < cs.length → ad.block ≠ p := fun ad h1 h2 => Nat.ne_of_lt (hlo ad h1 h2)
  obtain ⟨k, rfl⟩ : ∃ k : Nat, i = k := ⟨i.toNat, by omega⟩
  have hl := hB.lt
  have x0 := fun K : Kin w.heap.size w => ((hB.below K.below hB.lt).cell 0).trans (show _ = some (.slice A cs.length c) from rfl)
  have x1 := fun K : Kin w.heap.size w => ((hB.below K.below hB.lt).cell 1).trans (show _ = some (.int .i64 (k : Int)) from rfl)
  have x2 := fun K : Kin w.heap.size w => ((hB.below K.below hB.lt).cell 2).trans (show _ = some (.int .u64 s) from rfl)
  by_cases hlt : k < cs.length
  · obtain ⟨b0, off0, x', hA0, hbl0, hx0, hcx0⟩ := hR.at_ (Below.refl _ _) hlt
    have f0 := hcx0 0 _ rfl
    clear hx0 hcx0 hA0 hbl0
    go_enter Tryz.func105, Tryz.ntmps105
    go_wp2
    refine wp_region_kin (by kernel_rfl) (by kernel_rfl) ?_
    repeat (go_big_quiet_step ((fail)))
    refine wpQuiet_nil ?_
    intro K0
    have hq0 := K0.below
    have hB0 := hB.below K0.below hl
    have hg0 : w.grownBy K0.world (some p) := below_grown K0.below _
    have hR0 := hR.below K0.below
    clear x0 x1 x2 f0
    generalize K0.world = W0 at *
    obtain ⟨b, off, x, hA, hbl, hx, hcx⟩ := hR0.at_ (Below.refl _ _) hlt
    have f0 := hcx 0 _ rfl
    simp only [Nat.mul_one, Nat.add_zero] at f0
    have hx2 := x.toNat_lt
    have hx3 : (x.toNat : Int) ≤ 255 := by omega
    have hx4 : (0 : Int) ≤ (x.toNat : Int) := by omega
    have HX := Lib.hid hx
    subst hA
    clear hx hcx hx2
    have yl0 := hB0.lt
    have x0 := fun K : Kin W0.heap.size W0 => ((hB0.below K.below hB0.lt).cell 0).trans (show _ = some (.slice (some ⟨b, off, none⟩) cs.length c) from rfl)
    have x1 := fun K : Kin W0.heap.size W0 => ((hB0.below K.below hB0.lt).cell 1).trans (show _ = some (.int .i64 (k : Int)) from rfl)
    go_wp2
    refine wp_region_kin (by kernel_rfl) (by kernel_rfl) ?_
    repeat (go_big_quiet_step ((fail)))
    refine wpQuiet_nil ?_
    intro K
    go_upto_region 4 with fail
    clear x0 x1 f0
    have hB4 := hB0.below K.below yl0
    have hg4 := grown_tr hg0 (below_grown K.below (some p))
    generalize K.world = W at *
    have y := hB4.lt
    have x1 := (hB4.cell 1).trans (show _ = some (.int .i64 (k : Int)) from rfl)
    have f1 := hB4.frozen 1
    go_upto_region 5 with fail
    clear x1 f1
    replace hB4 : Blk (World.setCell W ⟨p, 1, none⟩ (.int .i64 ((k : Int) + 1))) p 65 #[.slice (some ⟨b, off, none⟩) cs.length c, .int .i64 ((k : Int) + 1), .int .u64 s] := hB4.set_ 1 _
    replace hg4 := grown_set (j := 1) hg4 (.int .i64 ((k : Int) + 1))
    generalize World.setCell W ⟨p, 1, none⟩ (.int .i64 ((k : Int) + 1)) = W1 at *
    replace y := hB4.lt
    have x2 := (hB4.cell 2).trans (show _ = some (.int .u64 s) from rfl)
    have f2 := hB4.frozen 2
    go_upto_region 6 with fail
    clear x2 f2
    obtain ⟨s2, hs2⟩ : ∃ s2, s2 = IntKind.u64.wrap (IntKind.u64.wrap (IntKind.u64.wrap (s * 6364136223846793005) + (x.toNat : Int)) + 909909) := ⟨_, rfl⟩
    have hw := wrap64u (IntKind.u64.wrap (IntKind.u64.wrap (s * 6364136223846793005) + (x.toNat : Int)) + 909909)
    rw [← hs2] at hw ⊢
    clear hs2
    replace hB4 : Blk (World.setCell W1 ⟨p, 2, none⟩ (.int .u64 s2)) p 65 #[.slice (some ⟨b, off, none⟩) cs.length c, .int .i64 ((k : Int) + 1), .int .u64 s2] := hB4.set_ 2 _
    replace hg4 := grown_set (j := 2) hg4 (.int .u64 s2)
    generalize World.setCell W1 ⟨p, 2, none⟩ (.int .u64 s2) = W2 at *
    replace y := hB4.lt
    have x0 := fun K : Kin W2.heap.size W2 => ((hB4.below K.below hB4.lt).cell 0).trans (show _ = some (.slice (some ⟨b, off, none⟩) cs.length c) from rfl)
    have x1 := fun K : Kin W2.heap.size W2 => ((hB4.below K.below hB4.lt).cell 1).trans (show _ = some (.int .i64 ((k : Int) + 1)) from rfl)
    have hle : (k : Int) + 1 ≤ (cs.length : Int) := by omega
    go_wp2
    refine wp_region_kin (by kernel_rfl) (by kernel_rfl) ?_
    repeat (go_big_quiet_step ((fail)))
    refine wpQuiet_nil ?_
    intro K2
    clear x0 x1
    have hB6 := hB4.below K2.below y
    have hg6 := grown_tr hg4 (below_grown K2.below (some p))
    generalize K2.world = W3 at *
    replace y := hB6.lt
    have x2 := (hB6.cell 2).trans (show _ = some (.int .u64 s2) from rfl)
    go_wp2
    go_ret
    refine ⟨_, rfl, ?_, ?_, ⟨⟨_, _, hB6, by omega, by omega⟩, rds_far hR hg6 hne, hlo⟩, hg6⟩
    · exact hx4
    · exact hx3
  · go_enter Tryz.func105, Tryz.ntmps105
    go_wp2
    refine wp_region_kin (by kernel_rfl) (by kernel_rfl) ?_
    repeat (go_big_quiet_step ((fail)))
    refine wpQuiet_nil ?_
    intro K
    go_upto_region 4 with fail
    clear x0 x1 x2
    have hB4 := hB.below K.below hl
    have hg4 : w.grownBy K.world (some p) := below_grown K.below _
    generalize K.world = W at *
    have y := hB4.lt
    have x1 := (hB4.cell 1).trans (show _ = some (.int .i64 (k : Int)) from rfl)
    have f1 := hB4.frozen 1
    go_upto_region 5 with fail
    clear x1 f1
    replace hB4 : Blk (World.setCell W ⟨p, 1, none⟩ (.int .i64 ((k : Int) + 1))) p 65 #[.slice A cs.length c, .int .i64 ((k : Int) + 1), .int .u64 s] := hB4.set_ 1 _
    replace hg4 := grown_set (j := 1) hg4 (.int .i64 ((k : Int) + 1))
    generalize World.setCell W ⟨p, 1, none⟩ (.int .i64 ((k : Int) + 1)) = W1 at *
    replace y := hB4.lt
    have x2 := (hB4.cell 2).trans (show _ = some (.int .u64 s) from rfl)
    have f2 := hB4.frozen 2
    go_upto_region 6 with fail
    clear x2 f2
    obtain ⟨s2, hs2⟩ : ∃ s2, s2 = IntKind.u64.wrap (IntKind.u64.wrap (IntKind.u64.wrap (s * 6364136223846793005)) + 909909) := ⟨_, rfl⟩
    have hw := wrap64u (IntKind.u64.wrap (IntKind.u64.wrap (s * 6364136223846793005)) + 909909)
    rw [← hs2] at hw ⊢
    clear hs2
    replace hB4 : Blk (World.setCell W1 ⟨p, 2, none⟩ (.int .u64 s2)) p 65 #[.slice A cs.length c, .int .i64 ((k : Int) + 1), .int .u64 s2] := hB4.set_ 2 _
    replace hg4 := grown_set (j := 2) hg4 (.int .u64 s2)
    generalize World.setCell W1 ⟨p, 2, none⟩ (.int .u64 s2) = W2 at *
    replace y := hB4.lt
    have x0 := fun K : Kin W2.heap.size W2 => ((hB4.below K.below hB4.lt).cell 0).trans (show _ = some (.slice A cs.length c) from rfl)
    have x1 := fun K : Kin W2.heap.size W2 => ((hB4.below K.below hB4.lt).cell 1).trans (show _ = some (.int .i64 ((k : Int) + 1)) from rfl)
    have hgt : ¬ (k : Int) + 1 ≤ (cs.length : Int) := by omega
    go_wp2
    refine wp_region_kin (by kernel_rfl) (by kernel_rfl) ?_
    repeat (go_big_quiet_step ((fail)))
    refine wpQuiet_nil ?_
    intro K2
    clear x0 x1
    have hB6 := hB4.below K2.below y
    have hg6 := grown_tr hg4 (below_grown K2.below (some p))
    generalize K2.world = W3 at *
    replace y := hB6.lt
    have x2 := (hB6.cell 2).trans (show _ = some (.int .u64 s2) from rfl)
    go_wp2
    go_ret
    refine ⟨_, rfl, ?_, ?_, ⟨⟨_, _, hB6, by omega, by omega⟩, rds_far hR hg6 hne, hlo⟩, hg6⟩
    · exact (and255 hw.1 hw.2).1
    · exact (and255 hw.1 hw.2).2
theorem Cur.mono {w : World} {p : Nat} {A : Option Addr} {c : Nat} {cs : List UInt8} {N M : Nat} (h : Cur w p A c cs N) (hM : N ≤ M) : Cur w p A c cs M := by
  obtain ⟨⟨i, s, hB, h0, h1⟩, hR, hne⟩ := h
  exact ⟨⟨i, s, hB, h0, by omega⟩, hR, hne⟩
theorem Cur.lt {w : World} {p : Nat} {A : Option Addr} {c : Nat} {cs : List UInt8} {N : Nat} (h : Cur w p A c cs N) : p < w.heap.size := by
  obtain ⟨⟨i, s, hB, h0, h1⟩, hR, hne⟩ := h
  exact hB.lt
/-- The cursor behind what makes memory. -/
theorem Cur.later {w w' : World} {p : Nat} {A : Option Addr} {c : Nat} {cs : List UInt8} {N : Nat} (h : Cur w p A c cs N) (hb : Below w.heap.size w w') : Cur w' p A c cs N := by
  obtain ⟨⟨i, s, hB, h0, h1⟩, hR, hne⟩ := h
  exact ⟨⟨i, s, hB.below hb hB.lt, h0, h1⟩, hR.below hb, hne⟩
/-- The cursor behind a store elsewhere. -/
theorem Cur.store {w : World} {p : Nat} {A : Option Addr} {c : Nat} {cs : List UInt8} {N : Nat} (h : Cur w p A c cs N) {g : Nat} (hg : p < g) (j : Nat) (u : Value) : Cur (w.setCell ⟨g, j, none⟩ u) p A c cs N := by
  obtain ⟨⟨i, s, hB, h0, h1⟩, hR, hne⟩ := h
  have hgr := grown_set (j := j) (g := g) (grown_refl w (some g)) u
  exact ⟨⟨i, s, hB.grownB hgr (by omega), h0, h1⟩, rds_far hR hgr (fun ad h2 h3 => by have := hne ad h2 h3; omega), hne⟩
/-- What a method of the cursor leaves: the cursor some steps on, all else as it was. -/
def Stepped (w w' : World) (p : Nat) (A : Option Addr) (c : Nat) (cs : List UInt8) (N : Nat) : Prop := Cur w' p A c cs N ∧ w.grownBy w' (some p)
theorem Stepped.size {w w' : World} {p : Nat} {A : Option Addr} {c : Nat} {cs : List UInt8} {N : Nat} (h : Stepped w w' p A c cs N) : w.heap.size ≤ w'.heap.size := h.2.size
theorem stepped_tr {w w1 w2 : World} {p : Nat} {A : Option Addr} {c : Nat} {cs : List UInt8} {N M : Nat} (h : Stepped w w1 p A c cs N) (k : Stepped w1 w2 p A c cs M) : Stepped w w2 p A c cs M := ⟨k.1, grown_tr h.2 k.2⟩
theorem stepped_mk {w w1 w2 : World} {p : Nat} {A : Option Addr} {c : Nat} {cs : List UInt8} {N : Nat} (h : Stepped w w1 p A c cs N) (k : Below w1.heap.size w1 w2) : Stepped w w2 p A c cs N := ⟨h.1.later k, grown_tr h.2 (below_grown k _)⟩
theorem stepped_pre {w w1 w2 : World} {p : Nat} {A : Option Addr} {c : Nat} {cs : List UInt8} {N : Nat} (k : Below w.heap.size w w1) (h : Stepped w1 w2 p A c cs N) : Stepped w w2 p A c cs N := ⟨h.1, grown_tr (below_grown k _) h.2⟩
theorem stepped_mono {w w1 : World} {p : Nat} {A : Option Addr} {c : Nat} {cs : List UInt8} {N M : Nat} (h : Stepped w w1 p A c cs N) (hM : N ≤ M) : Stepped w w1 p A c cs M := ⟨h.1.mono hM, h.2⟩
set_option maxHeartbeats 1000000 in
set_option maxRecDepth 100000 in
theorem pick_is (n : Int) (p : Nat) (A : Option Addr) (c : Nat) (cs : List UInt8) (hcs : cs.length ≤ 1048576) (N : Nat) (hN : N ≤ 900000) (hn : n ≤ 1000000000) (w : World) (h : Cur w p A c cs N) :
  Calls Tryz.prog 76 #[.pointer (some ⟨p, 0, none⟩), .int .i64 n] w fun e w' => ∃ r : Int, e = .returned (.int .i64 r) ∧ (0 ≤ r ∧ (n ≤ 1 → r = 0) ∧ (1 < n → r < n)) ∧ Stepped w w' p A c cs (N + 2) := by
  by_cases h1 : n ≤ 1
  · go_enter Tryz.func76, Tryz.ntmps76
    go_wp2
    go_ret
    exact ⟨0, rfl, ⟨by omega, fun _ => rfl, fun _ => by omega⟩, h.mono (by omega), grown_refl _ _⟩
  · by_cases h2 : n ≤ 200
    · have h2' : ¬ 200 < n := by omega
      go_enter Tryz.func76, Tryz.ntmps76
      go_wp2_with fail
      refine (next_is p A c cs hcs N (by omega) _ h).mono ?_
      rintro e w1 ⟨r, rfl, hr0, hr1, hC, hg⟩
      go_wp2
      go_ret
      exact ⟨_, rfl, ⟨Int.emod_nonneg _ (by omega), fun h => by omega, fun _ => Int.emod_lt_of_pos _ (by omega)⟩, hC.mono (by omega), hg⟩
    · have h2' : 200 < n := by omega
      go_enter Tryz.func76, Tryz.ntmps76
      go_wp2_with fail
      refine (next_is p A c cs hcs N (by omega) _ h).mono ?_
      rintro e w1 ⟨r, rfl, hr0, hr1, hC, hg⟩
      go_wp2_with fail
      refine (next_is p A c cs hcs (N + 1) (by omega) _ hC).mono ?_
      rintro e w2 ⟨r2, rfl, hr20, hr21, hC2, hg2⟩
      go_wp2
      go_ret
      exact ⟨_, rfl, ⟨Int.emod_nonneg _ (by omega), fun h => by omega, fun _ => Int.emod_lt_of_pos _ (by omega)⟩, hC2, grown_tr hg hg2⟩
theorem one_is (n : Int) (p : Nat) (A : Option Addr) (c : Nat) (cs : List UInt8) (hcs : cs.length ≤ 1048576) (N : Nat) (hN : N ≤ 900000) (hn : n ≤ 1000000000) (w : World) (h : Cur w p A c cs N) :
  Calls Tryz.prog 48 #[.pointer (some ⟨p, 0, none⟩), .int .i64 n] w fun e w' => ∃ b : Bool, e = .returned (.bool b) ∧ Stepped w w' p A c cs (N + 2) := by
  go_enter Tryz.func48, Tryz.ntmps48
  go_wp2_with fail
  refine (pick_is n p A c cs hcs N hN hn _ h).mono ?_
  rintro e w1 ⟨r, rfl, _, hS⟩
  go_wp2
  go_ret
  exact ⟨_, rfl, hS⟩
def bC (x : ByteArray) : List Value := [.string x]
theorem bC_len (y : ByteArray) : (bC y).length = 1 := rfl
set_option maxHeartbeats 1000000 in
set_option maxRecDepth 100000 in
theorem of_is (L : Option Addr) (lc : Nat) (xs : List ByteArray) (hx0 : 1 ≤ xs.length) (hx1 : xs.length ≤ 1000) (p : Nat) (A : Option Addr) (c : Nat) (cs : List UInt8) (hcs : cs.length ≤ 1048576) (N : Nat) (hN : N ≤ 900000) (w : World) (h : Cur w p A c cs N)
    (hL : Rds 1 bC w L xs) (hne : ∀ ad, L = some ad → 0 < xs.length → ad.block ≠ p) :
  Calls Tryz.prog 82 #[.pointer (some ⟨p, 0, none⟩), .slice L xs.length lc] w fun e w' => ∃ s, e = .returned (.string s) ∧ s ∈ xs ∧ Stepped w w' p A c cs (N + 2) := by
  go_enter Tryz.func82, Tryz.ntmps82
  go_wp2_with fail
  refine (pick_is xs.length p A c cs hcs N hN (by omega) _ h).mono ?_
  rintro e w1 ⟨r, rfl, ⟨hr0, hr1, hr2⟩, hS⟩
  have hr : r < xs.length := by
    by_cases h1 : (1 : Int) < xs.length
    · exact hr2 h1
    · rw [hr1 (by omega)]; omega
  obtain ⟨k, rfl⟩ : ∃ k : Nat, r = k := ⟨r.toNat, by omega⟩
  have hk : k < xs.length := by omega
  have hL1 := rds_far hL hS.2 hne
  obtain ⟨b, off, x, rfl, hbl, hx, hcx⟩ := hL1.at_ (Below.refl _ _) hk
  have f0 := hcx 0 _ rfl (Kin.self _)
  simp only [Nat.mul_one, Nat.add_zero, Kin.self] at f0
  have HX := Lib.hid hx
  clear hx hcx hr1 hr2 hL hL1
  go_wp2
  go_ret
  exact ⟨x, rfl, List.mem_of_getElem? HX.out, hS⟩
set_option maxHeartbeats 1000000 in
set_option maxRecDepth 100000 in
theorem among_is (L : Option Addr) (lc : Nat) (xs : List Int) (hx0 : 1 ≤ xs.length) (hx1 : xs.length ≤ 1000) (p : Nat) (A : Option Addr) (c : Nat) (cs : List UInt8) (hcs : cs.length ≤ 1048576) (N : Nat) (hN : N ≤ 900000) (w : World) (h : Cur w p A c cs N)
    (hL : Rds 1 intC w L xs) (hne : ∀ ad, L = some ad → 0 < xs.length → ad.block ≠ p) :
  Calls Tryz.prog 59 #[.pointer (some ⟨p, 0, none⟩), .slice L xs.length lc] w fun e w' => ∃ s, e = .returned (.int .i64 s) ∧ s ∈ xs ∧ Stepped w w' p A c cs (N + 2) := by
  go_enter Tryz.func59, Tryz.ntmps59
  go_wp2_with fail
  refine (pick_is xs.length p A c cs hcs N hN (by omega) _ h).mono ?_
  rintro e w1 ⟨r, rfl, ⟨hr0, hr1, hr2⟩, hS⟩
  have hr : r < xs.length := by
    by_cases h1 : (1 : Int) < xs.length
    · exact hr2 h1
    · rw [hr1 (by omega)]; omega
  obtain ⟨k, rfl⟩ : ∃ k : Nat, r = k := ⟨r.toNat, by omega⟩
  have hk : k < xs.length := by omega
  have hL1 := rds_far hL hS.2 hne
  obtain ⟨b, off, x, rfl, hbl, hx, hcx⟩ := hL1.at_ (Below.refl _ _) hk
  have f0 := hcx 0 _ rfl (Kin.self _)
  simp only [Nat.mul_one, Nat.add_zero, Kin.self] at f0
  have HX := Lib.hid hx
  clear hx hcx hr1 hr2 hL hL1
  go_wp2
  go_ret
  exact ⟨x, rfl, List.mem_of_getElem? HX.out, hS⟩
end Go.Proofs.YtbnncgahepcfnaaGreatDoor
/- A text split at a byte: plain law, and the reference's own function in full. -/
namespace Go.G9
open Go.RowKit
def bz (l : List UInt8) : ByteArray := ⟨l.toArray⟩
theorem bz_data (s : ByteArray) : bz s.data.toList = s := by obtain ⟨⟨l⟩⟩ := s; rfl
theorem bz_list (l : List UInt8) : (bz l).data.toList = l := by simp [bz]
def spl (c : UInt8) : List UInt8 → List (List UInt8)
  | [] => [[]]
  | x :: l => if x == c then [] :: spl c l else match spl c l with | [] => [[x]] | w :: ws => (x :: w) :: ws
theorem spl_none {c : UInt8} : ∀ {u : List UInt8}, (∀ x ∈ u, (x == c) = false) → spl c u = [u]
  | [], _ => rfl
  | x :: u, h => by
    have hx := h x (by simp)
    have ih := spl_none (u := u) (fun y hy => h y (by simp [hy]))
    simp only [spl, hx, ih]; rfl
theorem spl_sep {c : UInt8} : ∀ {u v : List UInt8}, (∀ x ∈ u, (x == c) = false) → spl c (u ++ c :: v) = u :: spl c v
  | [], v, _ => by simp [spl]
  | x :: u, v, h => by
    have hx := h x (by simp)
    have ih := spl_sep (u := u) (v := v) (fun y hy => h y (by simp [hy]))
    simp only [List.cons_append, spl, hx, ih]; rfl
theorem spl_ne (c : UInt8) (l : List UInt8) : spl c l ≠ [] := by
  cases l with
  | nil => simp [spl]
  | cons x l => unfold spl; split; · simp
                split <;> simp
theorem spl_len (c : UInt8) : ∀ l : List UInt8, (spl c l).length ≤ l.length + 1
  | [] => by simp [spl]
  | x :: l => by
    have ih := spl_len c l
    unfold spl
    split
    · simp; omega
    · split
      · simp
      · rename_i h; rw [h] at ih; simp at ih ⊢; omega
theorem extract_list (s : ByteArray) (a b : Nat) : (s.extract a b).data.toList = (s.data.toList.drop a).take (b - a) := by
  rw [ByteArray.data_extract, Array.toList_extract]
theorem at_list (s : ByteArray) {k : Nat} (hk : k < s.size) : s.data.toList[k]? = some s[k] := by
  have h : k < s.data.toList.length := by simpa using hk
  rw [List.getElem?_eq_getElem h]; rfl
end Go.G9
namespace Go.Proofs.YtbnncgahepcfnaaGreatDoor
open Go.RowKit Go.G9
theorem info_strS : (Tryz.prog.info? 9).map (fun i => (i.zero, i.size, i.bytes)) = some (some (.string ⟨#[]⟩), 1, 16) := by kernel_rfl
theorem bC_one (y : ByteArray) (u : Value) (h : u ∈ bC y) : u.oneCell' = true := by simp [bC] at h; subst h; rfl
def spB (c : UInt8) (s : ByteArray) : List ByteArray := (spl c s.data.toList).map bz
set_option maxHeartbeats 4000000 in
set_option maxRecDepth 100000 in
theorem l1SplitF_is (s : ByteArray) (c : UInt8) (hs : s.size ≤ 1048576) (w : World) : Calls Tryz.prog 57 #[.string s, .int .u8 (c.toNat : Int)] w fun e w' => ∃ A n, e = .returned (.slice A (spB c s).length n) ∧ OwnV w.heap.size 9 1 bC w' (.slice A (spB c s).length n) (spB c s) ∧ Below w.heap.size w w' := by
  obtain ⟨i0, hi, hz0, hz1, hz2⟩ := info_parts info_strS
  have hR0 := OwnV.built (B := w.heap.size) (f := bC) w ([] : List ByteArray) 9 (Nat.le_refl _) (by simp) bC_len
  simp only [List.flatMap_nil] at hR0
  have HR0 := Lib.hid hR0; clear hR0
  have hcl : c.toNat < 256 := c.toNat_lt
  have hcl2 : (c.toNat : Int) < 256 := by omega
  go_enter Tryz.func57, Tryz.ntmps57
  go_wp2
  go_loopw [5, 6, 7] (fun v5 v6 v7 wr => ∃ (xs : List ByteArray) (a k : Nat), k ≤ s.size ∧ a ≤ k ∧ v6 = .int .i64 a ∧ v7 = .int .i64 k ∧ xs.length ≤ k ∧ spB c s = xs ++ (spl c (s.data.toList.drop a)).map bz ∧ (∀ x ∈ (s.data.toList.drop a).take (k - a), (x == c) = false) ∧
      OwnV w.heap.size 9 1 bC wr v5 xs ∧ Below w.heap.size w wr) (fun _ _ v7 _ => 1048577 - (intOf v7).toNat)
  case atStart =>
    exact ⟨[], 0, 0, Nat.zero_le _, Nat.le_refl _, rfl, rfl, Nat.le_refl _, by simp [spB], by simp, HR0.out, bl1 _ _⟩
  case round =>
    obtain ⟨xs, a, k, hk, ha, rfl, rfl, hxl, hx0, hx1, hO, hb⟩ := hrel
    obtain ⟨A5, c5, rfl, hc5, _, _⟩ := hO.form bC_len
    have z0 := hb.size
    have lO := Lib.hid hO.lt
    have H0 := Lib.hid hx0; have H1 := Lib.hid hx1; have HO := Lib.hid hO; clear hx0 hx1 hO
    by_cases hlt : k < s.size
    · have hbk : s[k].toNat < 256 := s[k].toNat_lt
      have hget := at_list s hlt
      have hka : (s.data.toList.drop a)[k - a]? = some s[k] := by rw [List.getElem?_drop, show a + (k - a) = k by omega]; exact hget
      by_cases hc : s[k] = c
      · have hc2 : ((s[k].toNat : Int) == (c.toNat : Int)) = true := by rw [hc]; exact beq_iff_eq.2 rfl
        have hnew : spB c s = (xs ++ [s.extract a k]) ++ (spl c (s.data.toList.drop (k + 1))).map bz := by
          have e : s.data.toList.drop a = (s.data.toList.drop a).take (k - a) ++ c :: s.data.toList.drop (k + 1) := by
            have h1 : k - a < (s.data.toList.drop a).length := (List.getElem?_eq_some_iff.1 hka).1
            conv => lhs; rw [← List.take_append_drop (k - a) (s.data.toList.drop a)]
            rw [List.drop_eq_getElem_cons h1]
            have h2 : (s.data.toList.drop a)[k - a] = c := by
              have := (List.getElem?_eq_some_iff.1 hka).2; rw [this, hc]
            rw [h2, List.drop_drop, show a + (k - a + 1) = k + 1 by omega]
          rw [H0.out, e, spl_sep H1.out]
          simp only [List.map_cons, List.append_assoc, List.singleton_append]
          congr 2
          rw [← bz_data (s.extract a k), extract_list]
        have HN := Lib.hid hnew; clear hnew hc hget hka
        have hone : Rds 1 bC (wr.alloc (.cells #[.string (s.extract a k)] 9)) (some ⟨wr.heap.size, 0, none⟩) [s.extract a k] := Rds.one (sz := 1) (f := bC) _ _
        have HONE := Lib.hid hone; clear hone
        have HO1 := Lib.hid (HO.out.alloc (.cells #[.string (s.extract a k)] 9))
        go_wp2_with (at_builtin; refine wpList_app1 rfl _ _ 51 rfl w.heap.size 9 i0 _ 1 16 Tryz.underlying51 hi hz0 hz1 hz2 rfl (by decide) bC bC_len bC_one (.slice A5 xs.length c5) xs rfl HO1.out ⟨wr.heap.size, 0, none⟩ 1 (s.extract a k) rfl HONE.out (by unfold maxLen; omega) (by omega) (by simp; omega) ?_; intro v4 w4 hO4 hg4 ha4)
        have z4 := hg4.size
        have hB4 : Below w.heap.size w w4 := (hb.alloc (by omega) _).grown hg4 (by simp; omega) (fun q hq => (lO.out q hq).1)
        go_roundw
        case rel => exact ⟨xs ++ [s.extract a k], k + 1, k + 1, by omega, Nat.le_refl _, by go_num, by go_num, by simp; omega, HN.out, by simp, hO4, hB4⟩
        case measure => simp [intOf]; omega
      · have hc2 : ((s[k].toNat : Int) == (c.toNat : Int)) = false := by
          rw [beq_eq_false_iff_ne]
          intro e
          exact hc (UInt8.toNat_inj.1 (by omega))
        have hnew : ∀ x ∈ (s.data.toList.drop a).take (k + 1 - a), (x == c) = false := fun x hx => by
          have h1 : k - a < (s.data.toList.drop a).length := (List.getElem?_eq_some_iff.1 hka).1
          rw [show k + 1 - a = k - a + 1 by omega, List.take_succ_eq_append_getElem h1] at hx
          simp only [List.mem_append, List.mem_singleton] at hx
          rcases hx with hx | hx
          · exact H1.out x hx
          · rw [(List.getElem?_eq_some_iff.1 hka).2] at hx
            subst hx; exact beq_eq_false_iff_ne.2 hc
        have HN := Lib.hid hnew; clear hnew hc hget hka
        go_wp2
        go_roundw
        case rel => exact ⟨xs, a, k + 1, by omega, by omega, rfl, by go_num, by omega, H0.out, HN.out, HO.out, hb⟩
        case measure => simp [intOf]; omega
    · obtain rfl : k = s.size := by omega
      have hfin : xs ++ [s.extract a s.size] = spB c s := by
        have hsz : s.data.toList.length = s.size := by simp
        have h1 := H1.out
        rw [List.take_of_length_le (by rw [List.length_drop, hsz]; omega)] at h1
        rw [H0.out, spl_none h1]
        simp only [List.map_cons, List.map_nil]
        congr 1
        rw [← bz_data (s.extract a s.size), extract_list, List.take_of_length_le (by rw [List.length_drop, hsz]; omega)]
      have HF := Lib.hid hfin; clear hfin
      have hone : Rds 1 bC (wr.alloc (.cells #[.string (s.extract a s.size)] 9)) (some ⟨wr.heap.size, 0, none⟩) [s.extract a s.size] := Rds.one (sz := 1) (f := bC) _ _
      have HONE := Lib.hid hone; clear hone
      have HO1 := Lib.hid (HO.out.alloc (.cells #[.string (s.extract a s.size)] 9))
      go_wp2_with (at_builtin; refine wpList_app1 rfl _ _ 51 rfl w.heap.size 9 i0 _ 1 16 Tryz.underlying51 hi hz0 hz1 hz2 rfl (by decide) bC bC_len bC_one (.slice A5 xs.length c5) xs rfl HO1.out ⟨wr.heap.size, 0, none⟩ 1 (s.extract a s.size) rfl HONE.out (by unfold maxLen; omega) (by omega) (by simp; omega) ?_; intro v4 w4 hO4 hg4 ha4)
      have z4 := hg4.size
      have hB4 : Below w.heap.size w w4 := (hb.alloc (by omega) _).grown hg4 (by simp; omega) (fun q hq => (lO.out q hq).1)
      rw [HF.out] at hO4
      obtain ⟨A6, c6, rfl, _, _, _⟩ := hO4.form bC_len
      go_ret
      exact ⟨A6, c6, rfl, hO4, hB4⟩
end Go.Proofs.YtbnncgahepcfnaaGreatDoor
/- A text split at a byte by Go's library: it is the plain split. -/
namespace Go.G9
open Go.RowKit
theorem cut_at (c : UInt8) : ∀ l : List UInt8, (∀ x ∈ l, (x == c) = false) ∨ ∃ u v, l = u ++ c :: v ∧ ∀ x ∈ u, (x == c) = false
  | [] => .inl (by simp)
  | y :: l => by
    cases hy : y == c
    · rcases cut_at c l with h | ⟨u, v, e, h⟩
      · left; intro x hx
        rcases List.mem_cons.1 hx with rfl | hx
        · exact hy
        · exact h x hx
      · right
        exact ⟨y :: u, v, by rw [e]; rfl, fun x hx => by
          rcases List.mem_cons.1 hx with rfl | hx
          · exact hy
          · exact h x hx⟩
    · right
      have : y = c := by simpa using hy
      exact ⟨[], l, by rw [this]; rfl, by simp⟩
theorem ix_none {c : UInt8} : ∀ {l : List UInt8}, (∀ x ∈ l, (x == c) = false) → Lib.indexByte l c = -1
  | [], _ => rfl
  | y :: l, h => by
    have ih := ix_none (l := l) (fun x hx => h x (by simp [hx]))
    simp [Lib.indexByte, h y (by simp), ih]
theorem ix_app {c : UInt8} : ∀ {u v : List UInt8}, (∀ x ∈ u, (x == c) = false) → Lib.indexByte (u ++ c :: v) c = (u.length : Int)
  | [], v, _ => by simp [Lib.indexByte]
  | y :: u, v, h => by
    have ih := ix_app (u := u) (v := v) (fun x hx => h x (by simp [hx]))
    have hne : ((u.length : Int) == -1) = false := by rw [beq_eq_false_iff_ne]; omega
    simp only [List.cons_append, Lib.indexByte, h y (by simp), ih, hne, List.length_cons]
    simp
theorem split_spl (c : UInt8) (l : List UInt8) : Lib.splitK [c] 0 (Lib.count l [c]) l = spl c l := by
  rcases cut_at c l with h | ⟨u, v, e, h⟩
  · have hi : Lib.index l [c] = -1 := by rw [Lib.index_one, ix_none h]
    rw [Lib.count_miss hi, spl_none h]; rfl
  · have hi : Lib.index l [c] = (u.length : Nat) := by rw [Lib.index_one, e, ix_app h]
    have hm : ¬ (Lib.index l [c] == -1) = true := fun q => by have := beq_iff_eq.1 q; omega
    have hd : l.drop (u.length + [c].length) = v := by
      rw [e]; simp [List.drop_append]
    have ht : l.take (u.length + 0) = u := by rw [e]; simp
    rw [Lib.count_hit (by simp) hi, hd, Nat.add_comm 1, Lib.splitK, if_neg hm]
    have hn : (Lib.index l [c]).toNat = u.length := by omega
    rw [hn, hd, ht, split_spl c v, e, spl_sep h]
termination_by l.length
decreasing_by rw [e]; simp; omega
theorem splitB_spl (c : UInt8) (s : ByteArray) : Lib.splitB ⟨#[c]⟩ 0 (Lib.countB s ⟨#[c]⟩) s = (spl c s.data.toList).map bz := by
  have h := Lib.splitB_data ⟨#[c]⟩ 0 (Lib.countB s ⟨#[c]⟩) s
  have h2 : Lib.splitK (⟨#[c]⟩ : ByteArray).data.toList 0 (Lib.countB s ⟨#[c]⟩) s.data.toList = spl c s.data.toList := split_spl c s.data.toList
  rw [h2] at h
  rw [← h, List.map_map]
  conv => lhs; rw [← List.map_id (Lib.splitB ⟨#[c]⟩ 0 (Lib.countB s ⟨#[c]⟩) s)]
  exact List.map_congr_left fun x _ => (bz_data x).symm
end Go.G9
namespace Go.Proofs.YtbnncgahepcfnaaGreatDoor
open Go.RowKit Go.G9
def Mxl (w : World) : Prop := 1 < w.heap.size ∧ ∃ m : Int, w.cell? ⟨1, 0, none⟩ = some (.int .i64 m)
theorem Mxl.below {w w' : World} (h : Mxl w) (hb : Below w.heap.size w w') : Mxl w' := by
  obtain ⟨h1, m, h2⟩ := h
  exact ⟨Nat.lt_of_lt_of_le h1 hb.size, m, (hb.cell (p := ⟨1, 0, none⟩) h1).trans h2⟩
theorem iSplit_is (s : ByteArray) (c : UInt8) (hs : s.size ≤ 1048576) (w : World) (hM : Mxl w) : Calls Tryz.prog 46 #[.string s, .string ⟨#[c]⟩] w fun e w' => ∃ A n, e = .returned (.slice A (spB c s).length n) ∧ OwnV w.heap.size 9 1 bC w' (.slice A (spB c s).length n) (spB c s) ∧ Below w.heap.size w w' := by
  obtain ⟨h1, m, h2⟩ := hM
  refine (Tryz.strings_Split s ⟨#[c]⟩ m w (by omega) h2 (Nat.le_refl _)).mono ?_
  rintro e w' ⟨rfl, rfl⟩
  have hsp := splitB_spl c s
  have hlen : Lib.countB s ⟨#[c]⟩ + 1 = (spB c s).length := by
    have := Lib.splitB_all ⟨#[c]⟩ (Nat.le_refl _) 0 (Lib.countB s ⟨#[c]⟩) s rfl
    rw [hsp] at this; exact this.symm
  have hcl : (spB c s).length ≤ maxLen := by
    have := spl_len c s.data.toList
    have h3 : s.data.toList.length = s.size := by simp
    unfold spB maxLen; rw [List.length_map]; omega
  have hO := OwnV.built (B := w.heap.size) (f := bC) w (spB c s) 9 (Nat.le_refl _) hcl bC_len
  have hcells : (spB c s).flatMap bC = (spB c s).map Value.string := by
    generalize spB c s = L
    induction L with
    | nil => rfl
    | cons x L ih => simp [bC, ih]
  rw [hcells] at hO
  rw [hlen]
  refine ⟨some ⟨w.heap.size, 0, none⟩, (spB c s).length, rfl, ?_, bl1 _ _⟩
  rw [hsp]
  exact hO
end Go.Proofs.YtbnncgahepcfnaaGreatDoor
