/- Texts of the proof: walks of the functions, and what they compute. -/
import Derived.Deep.Cut
import Derived.IntWalk
import Derived.Laws.Bits64
import Derived.Laws.Bits64b
import Derived.Test.YtjimibkgocieoaaGreatRb0
import Derived.Test.YtjimibkgocieoaaGreatRb3
import Derived.Test.YtjimibkgocieoaaGreatRb15
import Derived.Outline
set_option maxHeartbeats 16000000
set_option maxRecDepth 100000
namespace Go.G9
open Go.RowKit
theorem wrap64u (n : Int) : 0 ≤ IntKind.u64.wrap n ∧ IntKind.u64.wrap n < 18446744073709551616 := by
  rw [IntKind.wrap_u64]; omega
theorem and255 {s : Int} (h0 : 0 ≤ s) (h1 : s < 18446744073709551616) : 0 ≤ wrap64 (bits .and .u64 (s / 1099511627776) 255) ∧ wrap64 (bits .and .u64 (s / 1099511627776) 255) ≤ 255 := by
  obtain ⟨n, hn⟩ : ∃ n : Nat, (n : Int) = s / 1099511627776 := ⟨(s / 1099511627776).toNat, by omega⟩
  have h2 := bits_and_u64_nat n 255 (by omega) (by omega)
  rw [← hn, show (255 : Int) = ((255 : Nat) : Int) from rfl, h2]
  have h3 : n &&& 255 ≤ 255 := Nat.and_le_right
  unfold wrap64
  omega
theorem _root_.Go.G9.Blk.grownB {w w' : World} {g p : Nat} {t : TypeId} {cs : Array Value} (h : Blk w g t cs) (hg : w.grownBy w' (some p)) (hne : g ≠ p) : Blk w' g t cs :=
  (hg.block g h.lt (fun e => hne (Option.some.inj e))).trans h
theorem grown_store {w W : World} {p g : Nat} (h : w.grownBy W (some p)) (hg : w.heap.size ≤ g) (j : Nat) (u : Value) : w.grownBy (W.setCell ⟨g, j, none⟩ u) (some p) :=
  ⟨h.os, h.tape, h.output, by simpa [World.setCell] using h.size, fun i hi hne => (Below.heap_setCell W _ u i (by show i ≠ g; omega)).trans (h.block i hi hne)⟩
theorem rds_far {T : Type} {sz : Nat} {f : T → List Value} {w w' : World} {A : Option Addr} {xs : List T} {p : Nat} (h : Rds sz f w A xs) (hg : w.grownBy w' (some p)) (hne : ∀ ad, A = some ad → 0 < xs.length → ad.block ≠ p) : Rds sz f w' A xs := by
  by_cases hn : 0 < xs.length
  · exact h.grown hg (fun ad ha e => hne ad ha hn (Option.some.inj e))
  · have : xs = [] := List.length_eq_zero_iff.1 (by omega)
    subst this; exact Rds.nil
def u8C (x : UInt8) : List Value := [.int .u8 (x.toNat : Int)]
end Go.G9
namespace Go.Proofs.YtjimibkgocieoaaGreat
open Go.RowKit Go.G9
structure Cur (w : World) (p : Nat) (A : Option Addr) (c : Nat) (cs : List UInt8) (N : Nat) : Prop where
  box : ∃ (i s : Int), Blk w p 95 #[.slice A cs.length c, .int .i64 i, .int .u64 s] ∧ 0 ≤ i ∧ i ≤ N
  rds : Rds 1 u8C w A cs
  lo : ∀ ad, A = some ad → 0 < cs.length → ad.block < p
theorem next_is (p : Nat) (A : Option Addr) (c : Nat) (cs : List UInt8) (hcs : cs.length ≤ 1048576) (N : Nat) (hN : N ≤ 1000000) (w : World) (h : Cur w p A c cs N) :
  Calls Tryz.prog 133 #[.pointer (some ⟨p, 0, none⟩)] w fun e w' => ∃ r : Int, e = .returned (.int .i64 r) ∧ 0 ≤ r ∧ r ≤ 255 ∧ Cur w' p A c cs (N + 1) ∧ w.grownBy w' (some p) := by
  obtain ⟨⟨i, s, hB, hi0, hi1⟩, hR, hlo⟩ := h
  have hne : ∀ ad, A = some ad → 0 < cs.length → ad.block ≠ p := fun ad h1 h2 => Nat.ne_of_lt (hlo ad h1 h2)
  obtain ⟨k, rfl⟩ : ∃ k : Nat, i = k := ⟨i.toNat, by omega⟩
  have hl := hB.lt
  have x0 := fun K : Kin w.heap.size w => ((hB.below K.below hB.lt).cell 0).trans (show _ = some (.slice A cs.length c) from rfl)
  have x1 := fun K : Kin w.heap.size w => ((hB.below K.below hB.lt).cell 1).trans (show _ = some (.int .i64 (k : Int)) from rfl)
  have x2 := fun K : Kin w.heap.size w => ((hB.below K.below hB.lt).cell 2).trans (show _ = some (.int .u64 s) from rfl)
  by_cases hlt : k < cs.length
  · obtain ⟨b0, off0, x', hA0, hbl0, hx0, hcx0⟩ := hR.at_ (Below.refl _ _) hlt
    have f0 := hcx0 0 _ rfl; clear hx0 hcx0 hA0 hbl0
    go_enter Tryz.func133, Tryz.ntmps133
    go_wp2
    refine wp_region_kin (by kernel_rfl) (by kernel_rfl) ?_
    repeat (go_big_quiet_step ((fail)))
    refine wpQuiet_nil ?_
    intro K0
    have hq0 := K0.below; have hB0 := hB.below K0.below hl; have hg0 : w.grownBy K0.world (some p) := bgr K0.below _; have hR0 := hR.below K0.below; clear x0 x1 x2 f0
    generalize K0.world = W0 at *
    obtain ⟨b, off, x, hA, hbl, hx, hcx⟩ := hR0.at_ (Below.refl _ _) hlt
    have f0 := hcx 0 _ rfl
    simp only [Nat.mul_one, Nat.add_zero] at f0
    have hx2 := x.toNat_lt
    have hx3 : (x.toNat : Int) ≤ 255 := by omega
    have hx4 : (0 : Int) ≤ (x.toNat : Int) := by omega
    have HX := Lib.hid hx
    subst hA
    clear hx hcx hx2; have yl0 := hB0.lt
    have x0 := fun K : Kin W0.heap.size W0 => ((hB0.below K.below hB0.lt).cell 0).trans (show _ = some (.slice (some ⟨b, off, none⟩) cs.length c) from rfl)
    have x1 := fun K : Kin W0.heap.size W0 => ((hB0.below K.below hB0.lt).cell 1).trans (show _ = some (.int .i64 (k : Int)) from rfl)
    go_wp2
    refine wp_region_kin (by kernel_rfl) (by kernel_rfl) ?_
    repeat (go_big_quiet_step ((fail)))
    refine wpQuiet_nil ?_
    intro K
    go_upto_region 4 with fail
    clear x0 x1 f0; have hB4 := hB0.below K.below yl0; have hg4 := grown_tr hg0 (bgr K.below (some p))
    generalize K.world = W at *
    have y := hB4.lt; have x1 := (hB4.cell 1).trans (show _ = some (.int .i64 (k : Int)) from rfl); have f1 := hB4.frozen 1
    go_upto_region 5 with fail
    clear x1 f1; replace hB4 : Blk (World.setCell W ⟨p, 1, none⟩ (.int .i64 ((k : Int) + 1))) p 95 #[.slice (some ⟨b, off, none⟩) cs.length c, .int .i64 ((k : Int) + 1), .int .u64 s] := hB4.set_ 1 _; replace hg4 := grown_set (j := 1) hg4 (.int .i64 ((k : Int) + 1))
    generalize World.setCell W ⟨p, 1, none⟩ (.int .i64 ((k : Int) + 1)) = W1 at *
    replace y := hB4.lt; have x2 := (hB4.cell 2).trans (show _ = some (.int .u64 s) from rfl); have f2 := hB4.frozen 2
    go_upto_region 6 with fail
    clear x2 f2
    obtain ⟨s2, hs2⟩ : ∃ s2, s2 = IntKind.u64.wrap (IntKind.u64.wrap (IntKind.u64.wrap (s * 6364136223846793005) + (x.toNat : Int)) + 909909) := ⟨_, rfl⟩
    have hw := wrap64u (IntKind.u64.wrap (IntKind.u64.wrap (s * 6364136223846793005) + (x.toNat : Int)) + 909909)
    rw [← hs2] at hw ⊢
    clear hs2; replace hB4 : Blk (World.setCell W1 ⟨p, 2, none⟩ (.int .u64 s2)) p 95 #[.slice (some ⟨b, off, none⟩) cs.length c, .int .i64 ((k : Int) + 1), .int .u64 s2] := hB4.set_ 2 _; replace hg4 := grown_set (j := 2) hg4 (.int .u64 s2)
    generalize World.setCell W1 ⟨p, 2, none⟩ (.int .u64 s2) = W2 at *
    replace y := hB4.lt
    have x0 := fun K : Kin W2.heap.size W2 => ((hB4.below K.below hB4.lt).cell 0).trans (show _ = some (.slice (some ⟨b, off, none⟩) cs.length c) from rfl)
    have x1 := fun K : Kin W2.heap.size W2 => ((hB4.below K.below hB4.lt).cell 1).trans (show _ = some (.int .i64 ((k : Int) + 1)) from rfl)
    have hle : (k : Int) + 1 ≤ (cs.length : Int) := by omega
    go_wp2
    refine wp_region_kin (by kernel_rfl) (by kernel_rfl) ?_
    repeat (go_big_quiet_step ((fail)))
    refine wpQuiet_nil ?_
    intro K2
    clear x0 x1; have hB6 := hB4.below K2.below y; have hg6 := grown_tr hg4 (bgr K2.below (some p))
    generalize K2.world = W3 at *
    replace y := hB6.lt; have x2 := (hB6.cell 2).trans (show _ = some (.int .u64 s2) from rfl)
    go_wp2
    go_ret
    refine ⟨_, rfl, ?_, ?_, ⟨⟨_, _, hB6, by omega, by omega⟩, rds_far hR hg6 hne, hlo⟩, hg6⟩
    · exact hx4
    · exact hx3
  · go_enter Tryz.func133, Tryz.ntmps133
    go_wp2
    refine wp_region_kin (by kernel_rfl) (by kernel_rfl) ?_
    repeat (go_big_quiet_step ((fail)))
    refine wpQuiet_nil ?_
    intro K
    go_upto_region 4 with fail
    clear x0 x1 x2; have hB4 := hB.below K.below hl; have hg4 : w.grownBy K.world (some p) := bgr K.below _
    generalize K.world = W at *
    have y := hB4.lt; have x1 := (hB4.cell 1).trans (show _ = some (.int .i64 (k : Int)) from rfl); have f1 := hB4.frozen 1
    go_upto_region 5 with fail
    clear x1 f1; replace hB4 : Blk (World.setCell W ⟨p, 1, none⟩ (.int .i64 ((k : Int) + 1))) p 95 #[.slice A cs.length c, .int .i64 ((k : Int) + 1), .int .u64 s] := hB4.set_ 1 _; replace hg4 := grown_set (j := 1) hg4 (.int .i64 ((k : Int) + 1))
    generalize World.setCell W ⟨p, 1, none⟩ (.int .i64 ((k : Int) + 1)) = W1 at *
    replace y := hB4.lt; have x2 := (hB4.cell 2).trans (show _ = some (.int .u64 s) from rfl); have f2 := hB4.frozen 2
    go_upto_region 6 with fail
    clear x2 f2
    obtain ⟨s2, hs2⟩ : ∃ s2, s2 = IntKind.u64.wrap (IntKind.u64.wrap (IntKind.u64.wrap (s * 6364136223846793005)) + 909909) := ⟨_, rfl⟩
    have hw := wrap64u (IntKind.u64.wrap (IntKind.u64.wrap (s * 6364136223846793005)) + 909909)
    rw [← hs2] at hw ⊢
    clear hs2; replace hB4 : Blk (World.setCell W1 ⟨p, 2, none⟩ (.int .u64 s2)) p 95 #[.slice A cs.length c, .int .i64 ((k : Int) + 1), .int .u64 s2] := hB4.set_ 2 _; replace hg4 := grown_set (j := 2) hg4 (.int .u64 s2)
    generalize World.setCell W1 ⟨p, 2, none⟩ (.int .u64 s2) = W2 at *
    replace y := hB4.lt
    have x0 := fun K : Kin W2.heap.size W2 => ((hB4.below K.below hB4.lt).cell 0).trans (show _ = some (.slice A cs.length c) from rfl)
    have x1 := fun K : Kin W2.heap.size W2 => ((hB4.below K.below hB4.lt).cell 1).trans (show _ = some (.int .i64 ((k : Int) + 1)) from rfl)
    have hgt : ¬ (k : Int) + 1 ≤ (cs.length : Int) := by omega
    go_wp2
    refine wp_region_kin (by kernel_rfl) (by kernel_rfl) ?_
    repeat (go_big_quiet_step ((fail)))
    refine wpQuiet_nil ?_
    intro K2
    clear x0 x1; have hB6 := hB4.below K2.below y; have hg6 := grown_tr hg4 (bgr K2.below (some p))
    generalize K2.world = W3 at *
    replace y := hB6.lt; have x2 := (hB6.cell 2).trans (show _ = some (.int .u64 s2) from rfl)
    go_wp2
    go_ret
    refine ⟨_, rfl, ?_, ?_, ⟨⟨_, _, hB6, by omega, by omega⟩, rds_far hR hg6 hne, hlo⟩, hg6⟩
    · exact (and255 hw.1 hw.2).1
    · exact (and255 hw.1 hw.2).2
theorem Cur.mono {w : World} {p : Nat} {A : Option Addr} {c : Nat} {cs : List UInt8} {N M : Nat} (h : Cur w p A c cs N) (hM : N ≤ M) : Cur w p A c cs M := by
  obtain ⟨⟨i, s, hB, h0, h1⟩, hR, hne⟩ := h
  exact ⟨⟨i, s, hB, h0, by omega⟩, hR, hne⟩
theorem Cur.lt {w : World} {p : Nat} {A : Option Addr} {c : Nat} {cs : List UInt8} {N : Nat} (h : Cur w p A c cs N) : p < w.heap.size := by
  obtain ⟨⟨i, s, hB, h0, h1⟩, hR, hne⟩ := h
  exact hB.lt
theorem Cur.later {w w' : World} {p : Nat} {A : Option Addr} {c : Nat} {cs : List UInt8} {N : Nat} (h : Cur w p A c cs N) (hb : Below w.heap.size w w') : Cur w' p A c cs N := by
  obtain ⟨⟨i, s, hB, h0, h1⟩, hR, hne⟩ := h
  exact ⟨⟨i, s, hB.below hb hB.lt, h0, h1⟩, hR.below hb, hne⟩
theorem Cur.store {w : World} {p : Nat} {A : Option Addr} {c : Nat} {cs : List UInt8} {N : Nat} (h : Cur w p A c cs N) {g : Nat} (hg : p < g) (j : Nat) (u : Value) : Cur (w.setCell ⟨g, j, none⟩ u) p A c cs N := by
  obtain ⟨⟨i, s, hB, h0, h1⟩, hR, hne⟩ := h
  have hgr := grown_set (j := j) (g := g) (grown_refl w (some g)) u
  exact ⟨⟨i, s, hB.grownB hgr (by omega), h0, h1⟩, rds_far hR hgr (fun ad h2 h3 => by have := hne ad h2 h3; omega), hne⟩
def Stepped (w w' : World) (p : Nat) (A : Option Addr) (c : Nat) (cs : List UInt8) (N : Nat) : Prop := Cur w' p A c cs N ∧ w.grownBy w' (some p)
theorem Stepped.size {w w' : World} {p : Nat} {A : Option Addr} {c : Nat} {cs : List UInt8} {N : Nat} (h : Stepped w w' p A c cs N) : w.heap.size ≤ w'.heap.size := h.2.size
theorem pick_is (n : Int) (p : Nat) (A : Option Addr) (c : Nat) (cs : List UInt8) (hcs : cs.length ≤ 1048576) (N : Nat) (hN : N ≤ 900000) (hn : n ≤ 1000000000) (w : World) (h : Cur w p A c cs N) :
  Calls Tryz.prog 72 #[.pointer (some ⟨p, 0, none⟩), .int .i64 n] w fun e w' => ∃ r : Int, e = .returned (.int .i64 r) ∧ (0 ≤ r ∧ (n ≤ 1 → r = 0) ∧ (1 < n → r < n)) ∧ Stepped w w' p A c cs (N + 2) := by
  by_cases h1 : n ≤ 1
  · go_enter Tryz.func72, Tryz.ntmps72
    go_wp2
    go_ret
    exact ⟨0, rfl, ⟨by omega, fun _ => rfl, fun _ => by omega⟩, h.mono (by omega), grown_refl _ _⟩
  · by_cases h2 : n ≤ 200
    · have h2' : ¬ 200 < n := by omega
      go_enter Tryz.func72, Tryz.ntmps72
      go_wp2_with fail
      refine (next_is p A c cs hcs N (by omega) _ h).mono ?_
      rintro e w1 ⟨r, rfl, hr0, hr1, hC, hg⟩
      go_wp2
      go_ret
      exact ⟨_, rfl, ⟨Int.emod_nonneg _ (by omega), fun h => by omega, fun _ => Int.emod_lt_of_pos _ (by omega)⟩, hC.mono (by omega), hg⟩
    · have h2' : 200 < n := by omega
      go_enter Tryz.func72, Tryz.ntmps72
      go_wp2_with fail
      refine (next_is p A c cs hcs N (by omega) _ h).mono ?_
      rintro e w1 ⟨r, rfl, hr0, hr1, hC, hg⟩
      go_wp2_with fail
      refine (next_is p A c cs hcs (N + 1) (by omega) _ hC).mono ?_
      rintro e w2 ⟨r2, rfl, hr20, hr21, hC2, hg2⟩
      go_wp2
      go_ret
      exact ⟨_, rfl, ⟨Int.emod_nonneg _ (by omega), fun h => by omega, fun _ => Int.emod_lt_of_pos _ (by omega)⟩, hC2, grown_tr hg hg2⟩
theorem one_is (n : Int) (p : Nat) (A : Option Addr) (c : Nat) (cs : List UInt8) (hcs : cs.length ≤ 1048576) (N : Nat) (hN : N ≤ 900000) (hn : n ≤ 1000000000) (w : World) (h : Cur w p A c cs N) :
  Calls Tryz.prog 73 #[.pointer (some ⟨p, 0, none⟩), .int .i64 n] w fun e w' => ∃ b : Bool, e = .returned (.bool b) ∧ Stepped w w' p A c cs (N + 2) := by
  go_enter Tryz.func73, Tryz.ntmps73
  go_wp2_with fail
  refine (pick_is n p A c cs hcs N hN hn _ h).mono ?_
  rintro e w1 ⟨r, rfl, _, hS⟩
  go_wp2
  go_ret
  exact ⟨_, rfl, hS⟩
def bC (x : ByteArray) : List Value := [.string x]
theorem bC_len (y : ByteArray) : (bC y).length = 1 := rfl
theorem zb24 {p : Prop} (h : p := by
 go_wp2_with fail
 refine (pick_is xs.length p A c cs hcs N hN (by omega) _ h).mono ?_
 rintro e w1 ⟨r, rfl, ⟨hr0, hr1, hr2⟩, hS⟩
 have hr : r < xs.length := by
   by_cases h1 : (1 : Int) < xs.length
   · exact hr2 h1
   · rw [hr1 (by omega)]; omega
 obtain ⟨k, rfl⟩ : ∃ k : Nat, r = k := ⟨r.toNat, by omega⟩
 have hk : k < xs.length := by omega
 have hL1 := rds_far hL hS.2 hne
 obtain ⟨b, off, x, rfl, hbl, hx, hcx⟩ := hL1.at_ (Below.refl _ _) hk
 have f0 := hcx 0 _ rfl (Kin.self _)
 simp only [Nat.mul_one, Nat.add_zero, Kin.self] at f0
 have HX := Lib.hid hx; clear hx hcx hr1 hr2 hL hL1
 go_wp2
 go_ret
 exact ⟨x, rfl, List.mem_of_getElem? HX.out, hS⟩) : p := h
theorem of_is (L : Option Addr) (lc : Nat) (xs : List ByteArray) (hx0 : 1 ≤ xs.length) (hx1 : xs.length ≤ 1000) (p : Nat) (A : Option Addr) (c : Nat) (cs : List UInt8) (hcs : cs.length ≤ 1048576) (N : Nat) (hN : N ≤ 900000) (w : World) (h : Cur w p A c cs N)
    (hL : Rds 1 bC w L xs) (hne : ∀ ad, L = some ad → 0 < xs.length → ad.block ≠ p) :
  Calls Tryz.prog 185 #[.pointer (some ⟨p, 0, none⟩), .slice L xs.length lc] w fun e w' => ∃ s, e = .returned (.string s) ∧ s ∈ xs ∧ Stepped w w' p A c cs (N + 2) := by
  go_enter Tryz.func185, Tryz.ntmps185
  exact zb24
theorem among_is (L : Option Addr) (lc : Nat) (xs : List Int) (hx0 : 1 ≤ xs.length) (hx1 : xs.length ≤ 1000) (p : Nat) (A : Option Addr) (c : Nat) (cs : List UInt8) (hcs : cs.length ≤ 1048576) (N : Nat) (hN : N ≤ 900000) (w : World) (h : Cur w p A c cs N)
    (hL : Rds 1 intC w L xs) (hne : ∀ ad, L = some ad → 0 < xs.length → ad.block ≠ p) :
  Calls Tryz.prog 67 #[.pointer (some ⟨p, 0, none⟩), .slice L xs.length lc] w fun e w' => ∃ s, e = .returned (.int .i64 s) ∧ s ∈ xs ∧ Stepped w w' p A c cs (N + 2) := by
  go_enter Tryz.func67, Tryz.ntmps67
  exact zb24
open Go.RowKit Go.G9
theorem vBig_is (A : Option Addr) (c n : Nat) (v : Bool) (hv : decide (65536 < n) = v) (w : World) : Calls Tryz.prog 7 #[.slice A n c] w fun e w' => e = .returned (.bool v) ∧ w' = w := by
 subst hv
 go_in
 go_wp2
 go_ret
 exact ⟨by first | rfl | (congr 2; simp; omega) | (refine ret_bool ?_; simp; omega), rfl⟩
theorem zb131 {p : Prop} (h : p := by
 go_wp2
 go_roundw
 case rel => exact ⟨k + 1, by omega, by go_num, bth hb K.below⟩
 case measure => simp [intOf]; omega) : p := h
theorem vInts_is (A A' : Option Addr) (c c' : Nat) (xs : List Int) (hn : xs.length ≤ 1048576) (w : World) (hR : Rds 1 intC w A xs) (hR' : Rds 1 intC w A' xs) :
 Calls Tryz.prog 30 #[.slice A xs.length c, .slice A' xs.length c'] w fun e w' => e = .returned (.bool true) ∧ Below w.heap.size w w' := by
 go_in
 go_wp2
 go_loopw [5] (fun i wr => ∃ (k : Nat), k ≤ xs.length ∧ i = .int .i64 k ∧ Below w.heap.size w wr) (fun i _ => xs.length - (intOf i).toNat)
 case atStart => exact ⟨0, Nat.zero_le _, rfl, Below.refl _ _⟩
 case round =>
  obtain ⟨k, hk, rfl, hb⟩ := hrel
  by_cases hlt : k < xs.length
  ·obtain ⟨b, off, x, rfl, hbl, hx, hcx⟩ := hR.at_ hb hlt
   obtain ⟨b', off', x', rfl, _, hx', hcx'⟩ := hR'.at_ hb hlt
   obtain rfl : x = x' := Option.some.inj (hx.symm.trans hx')
   have f0 := hcx 0 _ rfl; have e0 := hcx' 0 _ rfl
   simp only [Nat.mul_one, Nat.add_zero] at f0 e0
   clear hx hcx hx' hcx'
   go_wp2
   refine wp_region_kin (by kernel_rfl) (by kernel_rfl) ?_
   repeat (go_big_quiet_step ((fail)))
   refine wpQuiet_nil ?_
   intro K
   exact zb131
  ·go_wp2
   go_ret
   exact ⟨rfl, hb⟩
open Go.RowKit Go.G9
theorem zb68 {p : Prop} (h : p := by
 simp only [Nat.add_zero] at f0 e0
 clear hx hcx hx' hcx'
 go_wp2
 refine wp_region_kin (by kernel_rfl) (by kernel_rfl) ?_
 repeat (go_big_quiet_step ((fail)))
 refine wpQuiet_nil ?_
 intro K
 go_wp2
 go_roundw
 case rel => exact ⟨k + 1, by omega, by go_num, bth hb K.below⟩
 case measure => simp [intOf]; omega) : p := h
theorem vRules_is (A A' : Option Addr) (c c' : Nat) (xs : List Rul) (hn : xs.length ≤ 1048576) (w : World) (hR : Rds 7 Rul.cells w A xs) (hR' : Rds 7 Rul.cells w A' xs) :
 Calls Tryz.prog 49 #[.slice A xs.length c, .slice A' xs.length c'] w fun e w' => e = .returned (.bool true) ∧ Below w.heap.size w w' := by
 go_in
 go_wp2
 go_loopw [5] (fun i wr => ∃ (k : Nat), k ≤ xs.length ∧ i = .int .i64 k ∧ Below w.heap.size w wr) (fun i _ => xs.length - (intOf i).toNat)
 case atStart => exact ⟨0, Nat.zero_le _, rfl, Below.refl _ _⟩
 case round =>
  obtain ⟨k, hk, rfl, hb⟩ := hrel
  by_cases hlt : k < xs.length
  ·skip
   obtain ⟨b, off, x, rfl, hbl, hx, hcx⟩ := hR.at_ hb hlt
   obtain ⟨b', off', x', rfl, _, hx', hcx'⟩ := hR'.at_ hb hlt
   obtain rfl : x = x' := Option.some.inj (hx.symm.trans hx')
   obtain ⟨id, nm, rk, sc, db, am, nd, hok⟩ := x
   have f0 := hcx 0 _ rfl; have f1 := hcx 1 _ rfl; have f2 := hcx 2 _ rfl; have f3 := hcx 3 _ rfl; have f4 := hcx 4 _ rfl; have f5 := hcx 5 _ rfl; have f6 := hcx 6 _ rfl; have e0 := hcx' 0 _ rfl; have e1 := hcx' 1 _ rfl; have e2 := hcx' 2 _ rfl; have e3 := hcx' 3 _ rfl; have e4 := hcx' 4 _ rfl; have e5 := hcx' 5 _ rfl; have e6 := hcx' 6 _ rfl
   exact zb68
  ·go_wp2
   go_ret
   exact ⟨rfl, hb⟩
theorem vQuestions_is (A A' : Option Addr) (c c' : Nat) (xs : List Que) (hn : xs.length ≤ 1048576) (w : World) (hR : Rds 3 Que.cells w A xs) (hR' : Rds 3 Que.cells w A' xs) :
 Calls Tryz.prog 50 #[.slice A xs.length c, .slice A' xs.length c'] w fun e w' => e = .returned (.bool true) ∧ Below w.heap.size w w' := by
 go_in
 go_wp2
 go_loopw [5] (fun i wr => ∃ (k : Nat), k ≤ xs.length ∧ i = .int .i64 k ∧ Below w.heap.size w wr) (fun i _ => xs.length - (intOf i).toNat)
 case atStart => exact ⟨0, Nat.zero_le _, rfl, Below.refl _ _⟩
 case round =>
  obtain ⟨k, hk, rfl, hb⟩ := hrel
  by_cases hlt : k < xs.length
  ·skip
   obtain ⟨b, off, x, rfl, hbl, hx, hcx⟩ := hR.at_ hb hlt
   obtain ⟨b', off', x', rfl, _, hx', hcx'⟩ := hR'.at_ hb hlt
   obtain rfl : x = x' := Option.some.inj (hx.symm.trans hx')
   obtain ⟨id, m, s⟩ := x
   have f0 := hcx 0 _ rfl; have f1 := hcx 1 _ rfl; have f2 := hcx 2 _ rfl; have e0 := hcx' 0 _ rfl; have e1 := hcx' 1 _ rfl; have e2 := hcx' 2 _ rfl
   exact zb68
  ·go_wp2
   go_ret
   exact ⟨rfl, hb⟩
theorem vFloor_is (tu se sp : Int) (A2 D2 : Option Addr) (ws : List Int) (c2 d2 : Nat) (A3 D3 : Option Addr) (c3 d3 : Nat) (sh : List Sha) (h2 : ws.length ≤ 1048576) (h3 : sh.length ≤ 1048576) (w : World) (R2 : Rds 1 intC w A2 ws) (R3 : Rds 3 Sha.cells w A3 sh) (Q2 : Rds 1 intC w D2 ws) (Q3 : Rds 3 Sha.cells w D3 sh) :
 Calls Tryz.prog 51 #[.agg #[.int .i64 tu, .int .i64 se, .int .i64 sp, .slice A2 ws.length c2, .slice A3 sh.length c3], .agg #[.int .i64 tu, .int .i64 se, .int .i64 sp, .slice D2 ws.length d2, .slice D3 sh.length d3]] w fun e w' => e = .returned (.bool true) ∧ Below w.heap.size w w' := by
 go_in
 go_upto_region 1 with fail
 refine lay2 fun wX hq1 hA hB => ?_
 replace R2 := R2.below hq1; replace R3 := R3.below hq1; replace Q2 := Q2.below hq1; replace Q3 := Q3.below hq1; have HB := hq1; have a' := hA.cs5
 obtain ⟨b0, b1, b2, b3, b4⟩ := hB.cs5
 have yhA := hA.lt; have yhB := hB.lt
 go_wp2_with fail
 refine (vInts_is A2 D2 c2 d2 ws h2 _ (R2.below bel) (Q2.below bel)).mono ?_
 rintro e w2 ⟨rfl, hb2⟩
 have hq2 := be wX hb2; replace HB := bth HB hq2; replace R2 := R2.below hq2; replace R3 := R3.below hq2; replace Q2 := Q2.below hq2; replace Q3 := Q3.below hq2; replace hA := hA.to hq2; clear a'; have a' := hA.cs5; replace hB := hB.to hq2; clear b0 b1 b2 b3 b4
 obtain ⟨b0, b1, b2, b3, b4⟩ := hB.cs5
 have yhA := hA.lt; have yhB := hB.lt
 go_wp2
 have HB0 := lh HB; have HA0 := lh hA; have HB1 := lh hB; have HRA := lh R3; have HRD := lh Q3
 obtain ⟨wl, hwl⟩ : ∃ W, W = w2 := ⟨_, rfl⟩
 rw [← hwl] at HB0 HA0 HB1 HRA HRD
 rw [← hwl]
 clear HB hA hB R3 Q3 a' b0 b1 b2 b3 b4
 go_loopw [5] (fun i wr => ∃ (k : Nat), k ≤ sh.length ∧ i = .int .i64 k ∧ Below wl.heap.size wl wr) (fun i _ => sh.length - (intOf i).toNat)
 case atStart => exact ⟨0, Nat.zero_le _, rfl, Below.refl _ _⟩
 case round =>
  obtain ⟨k, hk, rfl, hb⟩ := hrel
  have hA := HA0.out.below hb HA0.out.lt; have hB := HB1.out.below hb HB1.out.lt; have HB := bth HB0.out hb; have hAl := hA.lt; have hBl := hB.lt; have a' := hA.cs5
  obtain ⟨b0, b1, b2, b3, b4⟩ := hB.cs5
  by_cases hlt : k < sh.length
  ·skip
   obtain ⟨b, off, x, rfl, hbl, hx, hcx⟩ := HRA.out.at_ hb hlt
   obtain ⟨b', off', x', rfl, _, hx', hcx'⟩ := HRD.out.at_ hb hlt
   obtain rfl : x = x' := Option.some.inj (hx.symm.trans hx')
   obtain ⟨m, t, s⟩ := x
   have f0 := hcx 0 _ rfl; have f1 := hcx 1 _ rfl; have f2 := hcx 2 _ rfl; have e0 := hcx' 0 _ rfl; have e1 := hcx' 1 _ rfl; have e2 := hcx' 2 _ rfl
   simp only [Nat.add_zero] at f0 e0
   clear hx hcx hx' hcx'
   go_upto_region 6 with fail
   clear a'; have a' := Blk.cs5K (fun K : Kin wr.heap.size wr => (hA.below K.below hA.lt)); clear b0 b1 b2 b3 b4
   obtain ⟨b0, b1, b2, b3, b4⟩ := Blk.cs5K (fun K : Kin wr.heap.size wr => (hB.below K.below hB.lt))
   refine wp_region_kin (by kernel_rfl) (by kernel_rfl) ?_
   repeat (go_big_quiet_step ((fail)))
   refine wpQuiet_nil ?_
   intro K
   clear a'; clear b0 b1 b2 b3 b4; have hq3 : Below wr.heap.size wr K.world := bth bel K.below; replace HB := bth HB hq3; replace hA := hA.to hq3; have a' := hA.cs5; replace hB := hB.to hq3
   obtain ⟨b0, b1, b2, b3, b4⟩ := hB.cs5
   exact zb131
  ·go_wp2
   go_ret
   exact ⟨rfl, HB⟩
theorem vMeeting_is (rs : List Rul) (qs : List Que) (tu se sp : Int) (ws : List Int) (sh : List Sha) (os : List Out) (A0 A1 A2 A3 A4 : Option Addr) (c0 c1 c2 c3 c4 : Nat) (D0 D1 D2 D3 D4 : Option Addr) (d0 d1 d2 d3 d4 : Nat) (h0 : rs.length ≤ 1048576) (h1 : qs.length ≤ 1048576) (h2 : ws.length ≤ 1048576) (h3 : sh.length ≤ 1048576) (h4 : os.length ≤ 1048576) (w : World) (R : MeR w A0 A1 A2 A3 A4 rs qs ws sh os) (Q : MeR w D0 D1 D2 D3 D4 rs qs ws sh os) :
 Calls Tryz.prog 11 #[.agg #[.slice A0 rs.length c0, .slice A1 qs.length c1, .int .i64 tu, .int .i64 se, .int .i64 sp, .slice A2 ws.length c2, .slice A3 sh.length c3, .slice A4 os.length c4], .agg #[.slice D0 rs.length d0, .slice D1 qs.length d1, .int .i64 tu, .int .i64 se, .int .i64 sp, .slice D2 ws.length d2, .slice D3 sh.length d3, .slice D4 os.length d4]] w fun e w' => e = .returned (.bool true) ∧ Below w.heap.size w w' := by
 obtain ⟨R0, R1, R2, R3, R4⟩ := R
 obtain ⟨Q0, Q1, Q2, Q3, Q4⟩ := Q
 go_in
 go_upto_region 1 with fail
 refine lay2 fun wX hq1 hA hB => ?_
 replace R0 := R0.below hq1; replace R1 := R1.below hq1; replace R2 := R2.below hq1; replace R3 := R3.below hq1; replace R4 := R4.below hq1; replace Q0 := Q0.below hq1; replace Q1 := Q1.below hq1; replace Q2 := Q2.below hq1; replace Q3 := Q3.below hq1; replace Q4 := Q4.below hq1; have HB := hq1; have a' := hA.cs8
 obtain ⟨b0, b1, b2, b3, b4, b5, b6, b7⟩ := hB.cs8
 have yhA := hA.lt; have yhB := hB.lt
 go_wp2_with fail
 refine (vRules_is A0 D0 c0 d0 rs h0 _ (R0.below bel) (Q0.below bel)).mono ?_
 rintro e w2 ⟨rfl, hb2⟩
 have hq2 := be wX hb2; replace HB := bth HB hq2; replace R0 := R0.below hq2; replace R1 := R1.below hq2; replace R2 := R2.below hq2; replace R3 := R3.below hq2; replace R4 := R4.below hq2; replace Q0 := Q0.below hq2; replace Q1 := Q1.below hq2; replace Q2 := Q2.below hq2; replace Q3 := Q3.below hq2; replace Q4 := Q4.below hq2; replace hA := hA.to hq2; clear a'; have a' := hA.cs8; replace hB := hB.to hq2
 clear b0 b1 b2 b3 b4 b5 b6 b7
 obtain ⟨b0, b1, b2, b3, b4, b5, b6, b7⟩ := hB.cs8
 have yhA := hA.lt; have yhB := hB.lt
 go_wp2_with fail
 refine (vQuestions_is A1 D1 c1 d1 qs h1 _ (R1.below bel) (Q1.below bel)).mono ?_
 rintro e w3 ⟨rfl, hb3⟩
 have hq3 := be w2 hb3; replace HB := bth HB hq3; replace R0 := R0.below hq3; replace R1 := R1.below hq3; replace R2 := R2.below hq3; replace R3 := R3.below hq3; replace R4 := R4.below hq3; replace Q0 := Q0.below hq3; replace Q1 := Q1.below hq3; replace Q2 := Q2.below hq3; replace Q3 := Q3.below hq3; replace Q4 := Q4.below hq3; replace hA := hA.to hq3; clear a'; have a' := hA.cs8; replace hB := hB.to hq3
 clear b0 b1 b2 b3 b4 b5 b6 b7
 obtain ⟨b0, b1, b2, b3, b4, b5, b6, b7⟩ := hB.cs8
 have yhA := hA.lt; have yhB := hB.lt
 go_wp2_with fail
 refine (vFloor_is tu se sp A2 D2 ws c2 d2 A3 D3 c3 d3 sh h2 h3 _ (R2.below bel) (R3.below bel) (Q2.below bel) (Q3.below bel)).mono ?_
 rintro e w4 ⟨rfl, hb4⟩
 have hq4 := be w3 hb4; replace HB := bth HB hq4; replace R0 := R0.below hq4; replace R1 := R1.below hq4; replace R2 := R2.below hq4; replace R3 := R3.below hq4; replace R4 := R4.below hq4; replace Q0 := Q0.below hq4; replace Q1 := Q1.below hq4; replace Q2 := Q2.below hq4; replace Q3 := Q3.below hq4; replace Q4 := Q4.below hq4; replace hA := hA.to hq4; clear a'; have a' := hA.cs8; replace hB := hB.to hq4
 clear b0 b1 b2 b3 b4 b5 b6 b7
 obtain ⟨b0, b1, b2, b3, b4, b5, b6, b7⟩ := hB.cs8
 have yhA := hA.lt; have yhB := hB.lt; clear R0 R1 R2 R3 Q0 Q1 Q2 Q3
 go_wp2
 have HB0 := lh HB; have HA0 := lh hA; have HB1 := lh hB; have HRA := lh R4; have HRD := lh Q4
 obtain ⟨wl, hwl⟩ : ∃ W, W = w4 := ⟨_, rfl⟩
 rw [← hwl] at HB0 HA0 HB1 HRA HRD
 rw [← hwl]
 clear HB hA hB R4 Q4 a' b0 b1 b2 b3 b4 b5 b6 b7
 go_loopw [5] (fun i wr => ∃ (k : Nat), k ≤ os.length ∧ i = .int .i64 k ∧ Below wl.heap.size wl wr) (fun i _ => os.length - (intOf i).toNat)
 case atStart => exact ⟨0, Nat.zero_le _, rfl, Below.refl _ _⟩
 case round =>
  obtain ⟨k, hk, rfl, hb⟩ := hrel
  have hA := HA0.out.below hb HA0.out.lt; have hB := HB1.out.below hb HB1.out.lt; have HB := bth HB0.out hb; have hAl := hA.lt; have hBl := hB.lt; have a' := hA.cs8
  obtain ⟨b0, b1, b2, b3, b4, b5, b6, b7⟩ := hB.cs8
  by_cases hlt : k < os.length
  ·skip
   obtain ⟨b, off, x, rfl, hbl, hx, hcx⟩ := HRA.out.at_ hb hlt
   obtain ⟨b', off', x', rfl, _, hx', hcx'⟩ := HRD.out.at_ hb hlt
   obtain rfl : x = x' := Option.some.inj (hx.symm.trans hx')
   obtain ⟨r, m, a⟩ := x
   have f0 := hcx 0 _ rfl; have f1 := hcx 1 _ rfl; have f2 := hcx 2 _ rfl; have e0 := hcx' 0 _ rfl; have e1 := hcx' 1 _ rfl; have e2 := hcx' 2 _ rfl
   simp only [Nat.add_zero] at f0 e0
   clear hx hcx hx' hcx'
   go_upto_region 6 with fail
   clear a'; have a' := Blk.cs8K (fun K : Kin wr.heap.size wr => (hA.below K.below hA.lt)); clear b0 b1 b2 b3 b4 b5 b6 b7
   obtain ⟨b0, b1, b2, b3, b4, b5, b6, b7⟩ := Blk.cs8K (fun K : Kin wr.heap.size wr => (hB.below K.below hB.lt))
   refine wp_region_kin (by kernel_rfl) (by kernel_rfl) ?_
   repeat (go_big_quiet_step ((fail)))
   refine wpQuiet_nil ?_
   intro K
   clear a'; clear b0 b1 b2 b3 b4 b5 b6 b7; have hq5 : Below wr.heap.size wr K.world := bth bel K.below; replace HB := bth HB hq5; replace hA := hA.to hq5; have a' := hA.cs8; replace hB := hB.to hq5
   obtain ⟨b0, b1, b2, b3, b4, b5, b6, b7⟩ := hB.cs8
   exact zb131
  ·go_wp2
   go_ret
   exact ⟨rfl, HB⟩

end Go.Proofs.YtjimibkgocieoaaGreat
namespace Go.G9
open Go.RowKit
structure Seg (lo hi : Nat) (w : World) (A : Option Addr) (c : Nat) (xs : List Int) : Prop where
 rds : Rds 1 intC w A xs
 nil : A = none → xs = [] ∧ c = 0
 rng : ∀ ad, A = some ad → 0 < xs.length → lo ≤ ad.block ∧ ad.block < hi
theorem Seg.kept {lo hi : Nat} {w w' : World} {A : Option Addr} {c : Nat} {xs : List Int} (h : Seg lo hi w A c xs) {row : Option Nat} (hg : w.grownBy w' row) (hr : ∀ k, row = some k → k < lo ∨ hi ≤ k) : Seg lo hi w' A c xs := by
 refine ⟨?_, h.nil, h.rng⟩
 by_cases hn : 0 < xs.length
 ·exact h.rds.grown hg (fun ad ha e => by
   have h1 := h.rng ad ha hn
   rcases hr _ e.symm with h2 | h2 <;> omega)
 ·have : xs = [] := List.length_eq_zero_iff.1 (by omega)
  subst this; exact Rds.nil
theorem Seg.of {B : Nat} {e : TypeId} {w : World} {A : Option Addr} {c : Nat} {xs : List Int} (h : OwnV B e 1 intC w (.slice A xs.length c) xs) : Seg B w.heap.size w A c xs :=
 ⟨h.rds, h.nilOk, fun ad ha _ => h.lt ad.block (by rw [ha]; rfl)⟩
theorem grown_row2 {w w1 w2 : World} {p : Nat} {row : Option Nat} (h : w.grownBy w1 (some p)) (k : w1.grownBy w2 row) (hr : ∀ g, row = some g → w.heap.size ≤ g) : w.grownBy w2 (some p) :=
 ⟨k.os.trans h.os, k.tape.trans h.tape, k.output.trans h.output, Nat.le_trans h.size k.size, fun i hi hne =>
  (k.block i (Nat.lt_of_lt_of_le hi h.size) (fun e => by have := hr i e.symm; omega)).trans (h.block i hi hne)⟩
structure Two (B : Nat) (e : TypeId) (w : World) (y n : Value) (ys ns : List Int) : Prop where
 oy : OwnV B e 1 intC w y ys
 on : OwnV B e 1 intC w n ns
 ne : Ne2 y n
section
variable {B : Nat} {e : TypeId} {w w' : World} {y n : Value} {ys ns : List Int}
theorem Two.kept (h : Two B e w y n ys ns) {p : Nat} (hg : w.grownBy w' (some p)) (hp : p < B) : Two B e w' y n ys ns :=
 ⟨h.oy.kept hg (fun k hk e => by have := (h.oy.lt k hk).1; have := Option.some.inj e; omega), h.on.kept hg (fun k hk e => by have := (h.on.lt k hk).1; have := Option.some.inj e; omega), h.ne⟩
theorem Two.alloc (h : Two B e w y n ys ns) (o : Obj) : Two B e (w.alloc o) y n ys ns := ⟨h.oy.alloc o, h.on.alloc o, h.ne⟩
end
end Go.G9
namespace Go.Proofs.YtjimibkgocieoaaGreat
open Go.RowKit Go.G9
theorem Cur.row {w w' : World} {p : Nat} {A : Option Addr} {c : Nat} {cs : List UInt8} {N : Nat} (h : Cur w p A c cs N) {row : Option Nat} (hg : w.grownBy w' row) (hr : ∀ k, row = some k → p < k) : Cur w' p A c cs N := by
 obtain ⟨⟨i, s, hB, h0, h1⟩, hR, hlo⟩ := h
 refine ⟨⟨i, s, (hg.block p hB.lt (fun e => by have := hr p e.symm; omega)).trans hB, h0, h1⟩, ?_, hlo⟩
 by_cases hn : 0 < cs.length
 ·exact hR.grown hg (fun ad ha e => by have h1 := hlo ad ha hn; have h2 := hr _ e.symm; omega)
 ·have : cs = [] := List.length_eq_zero_iff.1 (by omega)
  subst this; exact Rds.nil
end Go.Proofs.YtjimibkgocieoaaGreat
namespace Go.G9
open Go.RowKit
theorem stG {w0 w W : World} {p g k : Nat} {vs : List Value} (h : Sto w g k vs W) (HG : w0.grownBy w (some p)) (hg : w0.heap.size ≤ g := by omega) : w0.grownBy W (some p) := grown_row2 HG h.gr (fun q e => by have := Option.some.inj e; omega)
theorem OwnV.kS {T : Type} {B sz : Nat} {f : T → List Value} {e : TypeId} {w W : World} {v : Value} {xs : List T} {g k : Nat} {vs : List Value} (h : OwnV B e sz f w v xs) (s : Sto w g k vs W) (hne : ∀ q, v.ownBlock = some q → ¬ q = g := by assumption) : OwnV B e sz f W v xs := h.keptS s hne
end Go.G9
namespace Go.Proofs.YtjimibkgocieoaaGreat
open Go.RowKit Go.G9
theorem stC {w W : World} {p g k N : Nat} {A : Option Addr} {c : Nat} {cs : List UInt8} {vs : List Value} (h : Sto w g k vs W) (hC : Cur w p A c cs N) (hg : p < g := by omega) : Cur W p A c cs N := hC.row h.gr (fun q e => by have := Option.some.inj e; omega)
open Go.RowKit Go.G9
theorem built_rdsO (w : World) (xs : List ByteArray) (hm : xs.length ≤ maxLen) : Rds 1 bC (w.alloc (.cells (xs.flatMap bC).toArray 9)) (some ⟨w.heap.size, 0, none⟩) xs := (OwnV.ofBlk (B := w.heap.size) (cap := xs.length) (Blk.new w 9 _) (Nat.le_refl _) (Nat.le_refl _) hm (by simp [flat_len bC_len]) (fun i x hx j u hu => by simpa using flat_get bC_len xs i x hx j u hu) bC_len).rds (hf := bC_len)
theorem word_is (p : Nat) (A : Option Addr) (c : Nat) (cs : List UInt8) (hcs : cs.length ≤ 1048576) (N : Nat) (hN : N ≤ 800000) (w : World) (hC : Cur w p A c cs N) :
 Calls Tryz.prog 203 #[.pointer (some ⟨p, 0, none⟩)] w fun e w' => ∃ s : ByteArray, e = .returned (.string s) ∧ s.size ≤ 7 ∧ Stepped w w' p A c cs (N + 2) := by
 go_in
 have hp := hC.lt; have HG := grown_refl w (some p); have hL := built_rdsO w [(⟨#[109, 97, 105, 110]⟩ : ByteArray), (⟨#[116, 97, 98, 108, 101]⟩ : ByteArray), (⟨#[97, 100, 106, 111, 117, 114, 110]⟩ : ByteArray), (⟨#[97, 109, 101, 110, 100]⟩ : ByteArray), (⟨#[114, 101, 99, 101, 115, 115]⟩ : ByteArray), (⟨#[114, 101, 102, 101, 114]⟩ : ByteArray), (⟨#[108, 105, 109, 105, 116]⟩ : ByteArray), (⟨#[99, 97, 108, 108]⟩ : ByteArray), (⟨#[97]⟩ : ByteArray), (⟨#[98, 121, 108, 97, 119, 115]⟩ : ByteArray)] (by simp [maxLen])
 have HL := lh hL; clear hL
 go_wp2_with fail
 refine (of_is (some ⟨w.heap.size, 0, none⟩) _ [(⟨#[109, 97, 105, 110]⟩ : ByteArray), (⟨#[116, 97, 98, 108, 101]⟩ : ByteArray), (⟨#[97, 100, 106, 111, 117, 114, 110]⟩ : ByteArray), (⟨#[97, 109, 101, 110, 100]⟩ : ByteArray), (⟨#[114, 101, 99, 101, 115, 115]⟩ : ByteArray), (⟨#[114, 101, 102, 101, 114]⟩ : ByteArray), (⟨#[108, 105, 109, 105, 116]⟩ : ByteArray), (⟨#[99, 97, 108, 108]⟩ : ByteArray), (⟨#[97]⟩ : ByteArray), (⟨#[98, 121, 108, 97, 119, 115]⟩ : ByteArray)] (by simp) (by simp) p A c cs hcs N (by omega) _ (hC.later bel) HL.out (fun ad h _ => by cases h; show w.heap.size ≠ p; omega)).mono ?_
 rintro e w1 ⟨s, rfl, hs, hS1⟩
 have hg1 : w.grownBy w1 (some p) := grown_tr (bgr bel _) hS1.2; replace hC := hS1.1; have sz1 := hg1.size; replace HG := grown_tr HG hg1
 go_wp2
 go_ret
 have hsz : s.size ≤ 7 := by
  simp only [List.mem_cons, List.not_mem_nil, or_false] at hs
  rcases hs with h | h | h | h | h | h | h | h | h | h <;> (subst h; decide)
 exact ⟨s, rfl, hsz, hC, HG⟩
theorem built_rdsQ (w : World) (xs : List Int) (hm : xs.length ≤ maxLen) : Rds 1 intC (w.alloc (.cells (xs.flatMap intC).toArray 3)) (some ⟨w.heap.size, 0, none⟩) xs := (OwnV.ofBlk (B := w.heap.size) (cap := xs.length) (Blk.new w 3 _) (Nat.le_refl _) (Nat.le_refl _) hm (by simp [flat_len intC_len]) (fun i x hx j u hu => by simpa using flat_get intC_len xs i x hx j u hu) intC_len).rds (hf := intC_len)
end Go.Proofs.YtjimibkgocieoaaGreat
