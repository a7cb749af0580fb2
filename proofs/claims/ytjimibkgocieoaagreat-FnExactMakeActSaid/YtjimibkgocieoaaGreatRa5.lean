/- Texts of the proof: walks of the functions, and what they compute. -/
import Derived.Test.YtjimibkgocieoaaGreatRa3
import Derived.Test.YtjimibkgocieoaaGreatRa4
import Derived.Test.YtjimibkgocieoaaGreatRa0
import Derived.Deep.RegionWith
import Derived.Deep.Cut
set_option maxHeartbeats 16000000
set_option maxRecDepth 100000
namespace Go.Proofs.YtjimibkgocieoaaGreat
open Go.RowKit Go.G9
def patShare (q : Int) : List Value := [.int .i64 (q), .int .i64 (q + 1), .int .i64 (q + 1 + 1)]
theorem patShare_len (q : Int) : (patShare q).length = 3 := rfl
theorem zb80 {p : Prop} (h : p := by
 obtain rfl : k = xs.length := by omega
 go_wp2
 go_ret
 refine ⟨ret_int (by have := HQ.out; omega), ?_, HG.out⟩
 have h := OwnV.ofBlk (B := B) (xs := mks m 3 xs.length) hBK hB (by rw [mks_len]; exact hnc) hcm HSZ.out (fun i x hx => HF.out i x (by have := (List.getElem?_eq_some_iff.1 hx).1; rwa [mks_len] at this) hx)
 rw [mks_len] at h
 exact h) : p := h
theorem mkShareS_is (B : Nat) (A : Option Addr) (c : Nat) (xs : List Sha) (hn : xs.length ≤ 1048576) (m : Int) (h0 : 0 < m) (h1 : m ≤ 100000000) (w : World) (hO : OwnV B 144 3 Sha.cells w (.slice A xs.length c) xs) :
 Calls Tryz.prog 152 #[.slice A xs.length c, .int .i64 m] w fun e w' => e = .returned (.int .i64 (m + 3 * xs.length)) ∧ OwnV B 144 3 patShare w' (.slice A xs.length c) (mks m 3 xs.length) ∧ w.grownBy w' (Value.slice A xs.length c).ownBlock := by
 by_cases hz : xs.length = 0
 ·have hx0 : xs = [] := List.length_eq_zero_iff.1 hz
  subst hx0
  clear hz; have hO' : OwnV B 144 3 patShare w (.slice A 0 c) (mks m 3 0) := hO.empty; have HO := lh hO'; clear hO hO'
  go_enter Tryz.func152, Tryz.ntmps152
  exact zb87
 obtain ⟨g, cap, cs0, hve, hB, hbk, hnc, hcm, hcs⟩ := hO.block (by omega)
 injection hve with hve1 _ hve2
 subst hve1 hve2
 have HC0 := lh hcs; have HB0 := lh hbk; clear hcs hbk hO hz
 go_enter Tryz.func152, Tryz.ntmps152
 go_wp2
 go_loopw [1, 5] (fun mv i wr => ∃ (k : Nat) (q : Int) (cs : Array Value), k ≤ xs.length ∧ i = .int .i64 k ∧ mv = .int .i64 q ∧ q = m + 3 * k ∧ Blk wr g 144 cs ∧ cs.size = c * 3 ∧ Filled 3 patShare (mks m 3 xs.length) k cs ∧ w.grownBy wr (some g)) (fun _ i _ => xs.length - (intOf i).toNat)
 case atStart => exact ⟨0, m, cs0, Nat.zero_le _, rfl, rfl, by simp, HB0.out, HC0.out, Filled.zero, grown_refl _ _⟩
 case round =>
  obtain ⟨k, q, cs, hk, rfl, rfl, hq, hBK, hsz, hF, hg⟩ := hrel
  have hq1 : 0 < q := by omega
  have hq2 : q ≤ 200000000 := by omega
  have HQ := lh hq; have HSZ := lh hsz; have HF := lh hF; have HG := lh hg; clear hq hsz hF hg
  by_cases hlt : k < xs.length
  ·have hx : (mks m 3 xs.length)[k]? = some q := by rw [mks_get hlt, HQ.out]
   have HX := lh hx; clear hx
   obtain ⟨v0, c0⟩ := hBK.some_ (k * 3) (by have hh := HSZ.out; omega)
   have z0 := hBK.frozen (k * 3)
   obtain ⟨v1, c1⟩ := hBK.some_ (k * 3 + 1) (by have hh := HSZ.out; omega)
   have z1 := hBK.frozen (k * 3 + 1)
   obtain ⟨v2, c2⟩ := hBK.some_ (k * 3 + 2) (by have hh := HSZ.out; omega)
   have z2 := hBK.frozen (k * 3 + 2)
   go_wp2
   go_roundw
   case rel =>
    have hfin : Go.G9.setMany cs (k * 3) [.int .i64 (q), .int .i64 (q + 1), .int .i64 (q + 1 + 1)] = Go.G9.setMany cs (k * 3) (patShare q) := by first | exact Go.G9.setMany_one cs _ _ _ | rfl
    refine ⟨k + 1, _, Go.G9.setMany cs (k * 3) [.int .i64 (q), .int .i64 (q + 1), .int .i64 (q + 1 + 1)], by omega, by go_num, rfl, by have := HQ.out; omega, ?_, ?_, ?_, (grown_set (grown_set (grown_set HG.out _) _) _)⟩
    ·exact Blk.setMany (k * 3) [.int .i64 (q), .int .i64 (q + 1), .int .i64 (q + 1 + 1)] hBK
    ·rw [hfin, size_setMany, HSZ.out]
    ·rw [hfin]; have h := HF.out.put HX.out (by rw [HSZ.out, patShare_len]; omega); exact h
   case measure => simp [intOf]; omega
  ·exact zb80
theorem zb18 {p : Prop} (h : p := by
 go_wp2
 go_loopw [1, 5] (fun mv i wr => ∃ (k : Nat) (q : Int), k ≤ n ∧ i = .int .i64 k ∧ mv = .int .i64 q ∧ q = m + 3 * k ∧ Below w.heap.size w wr) (fun _ i _ => n - (intOf i).toNat)
 case atStart => exact ⟨0, m, Nat.zero_le _, rfl, rfl, by simp, Below.refl _ _⟩
 case round =>
  obtain ⟨k, q, hk, rfl, rfl, hq, hb⟩ := hrel
  have hq1 : 0 < q := by omega
  have hq2 : q ≤ 200000000 := by omega
  have HQ := lh hq; clear hq
  by_cases hlt : k < n
  ·obtain ⟨b, off, x, rfl, hbl, hx, hcx⟩ := hR.at_ hb (k := k) (by rw [mks_len]; exact hlt)
   have hxq : x = q := by rw [mks_get hlt] at hx; rw [HQ.out]; exact (Option.some.inj hx).symm
   subst hxq
   have f0 := hcx 0 _ rfl; have f1 := hcx 1 _ rfl; have f2 := hcx 2 _ rfl
   simp only [Nat.add_zero] at f0
   clear hx hcx; have g0 := f0 (Kin.self _); have g1 := f1 (Kin.self _); have g2 := f2 (Kin.self _)
   simp only [Kin.self] at g0
   simp only [Kin.self] at g1
   simp only [Kin.self] at g2
   go_wp2
   go_roundw
   case rel => exact ⟨k + 1, _, by omega, by go_num, rfl, by have := HQ.out; omega, hb⟩
   case measure => simp [intOf]; omega
  ·obtain rfl : k = n := by omega
   go_wp2
   go_ret
   exact ⟨ret_int (by have := HQ.out; omega), hb⟩) : p := h
theorem hdShareS_is (A : Option Addr) (c n : Nat) (hn : n ≤ 1048576) (m : Int) (h0 : 0 < m) (h1 : m ≤ 100000000) (w : World) (hR : Rds 3 patShare w A (mks m 3 n)) :
 Calls Tryz.prog 154 #[.slice A n c, .int .i64 m] w fun e w' => e = .returned (.int .i64 (m + 3 * n)) ∧ Below w.heap.size w w' := by
 go_enter Tryz.func154, Tryz.ntmps154
 exact zb18
def patQuestion (q : Int) : List Value := [.int .i64 (q), .int .i64 (q + 1), .bool ((q + 1 + 1) % 3 == 0)]
theorem patQuestion_len (q : Int) : (patQuestion q).length = 3 := rfl
theorem zb159 {p : Prop} (h : p := by
 exact Blk.setMany (k * 3) [.int .i64 (q), .int .i64 (q + 1), .bool ((q + 1 + 1) % 3 == 0)] hBK) : p := h
theorem mkQuestionS_is (B : Nat) (A : Option Addr) (c : Nat) (xs : List Que) (hn : xs.length ≤ 1048576) (m : Int) (h0 : 0 < m) (h1 : m ≤ 100000000) (w : World) (hO : OwnV B 46 3 Que.cells w (.slice A xs.length c) xs) :
 Calls Tryz.prog 92 #[.slice A xs.length c, .int .i64 m] w fun e w' => e = .returned (.int .i64 (m + 3 * xs.length)) ∧ OwnV B 46 3 patQuestion w' (.slice A xs.length c) (mks m 3 xs.length) ∧ w.grownBy w' (Value.slice A xs.length c).ownBlock := by
 by_cases hz : xs.length = 0
 ·have hx0 : xs = [] := List.length_eq_zero_iff.1 hz
  subst hx0
  clear hz; have hO' : OwnV B 46 3 patQuestion w (.slice A 0 c) (mks m 3 0) := hO.empty; have HO := lh hO'; clear hO hO'
  go_enter Tryz.func92, Tryz.ntmps92
  exact zb87
 obtain ⟨g, cap, cs0, hve, hB, hbk, hnc, hcm, hcs⟩ := hO.block (by omega)
 injection hve with hve1 _ hve2
 subst hve1 hve2
 have HC0 := lh hcs; have HB0 := lh hbk; clear hcs hbk hO hz
 go_enter Tryz.func92, Tryz.ntmps92
 go_wp2
 go_loopw [1, 5] (fun mv i wr => ∃ (k : Nat) (q : Int) (cs : Array Value), k ≤ xs.length ∧ i = .int .i64 k ∧ mv = .int .i64 q ∧ q = m + 3 * k ∧ Blk wr g 46 cs ∧ cs.size = c * 3 ∧ Filled 3 patQuestion (mks m 3 xs.length) k cs ∧ w.grownBy wr (some g)) (fun _ i _ => xs.length - (intOf i).toNat)
 case atStart => exact ⟨0, m, cs0, Nat.zero_le _, rfl, rfl, by simp, HB0.out, HC0.out, Filled.zero, grown_refl _ _⟩
 case round =>
  obtain ⟨k, q, cs, hk, rfl, rfl, hq, hBK, hsz, hF, hg⟩ := hrel
  have hq1 : 0 < q := by omega
  have hq2 : q ≤ 200000000 := by omega
  have HQ := lh hq; have HSZ := lh hsz; have HF := lh hF; have HG := lh hg; clear hq hsz hF hg
  by_cases hlt : k < xs.length
  ·have hx : (mks m 3 xs.length)[k]? = some q := by rw [mks_get hlt, HQ.out]
   have HX := lh hx; clear hx
   obtain ⟨v0, c0⟩ := hBK.some_ (k * 3) (by have hh := HSZ.out; omega)
   have z0 := hBK.frozen (k * 3)
   obtain ⟨v1, c1⟩ := hBK.some_ (k * 3 + 1) (by have hh := HSZ.out; omega)
   have z1 := hBK.frozen (k * 3 + 1)
   obtain ⟨v2, c2⟩ := hBK.some_ (k * 3 + 2) (by have hh := HSZ.out; omega)
   have z2 := hBK.frozen (k * 3 + 2)
   go_wp2
   go_roundw
   case rel =>
    have hfin : Go.G9.setMany cs (k * 3) [.int .i64 (q), .int .i64 (q + 1), .bool ((q + 1 + 1) % 3 == 0)] = Go.G9.setMany cs (k * 3) (patQuestion q) := by first | exact Go.G9.setMany_one cs _ _ _ | rfl
    refine ⟨k + 1, _, Go.G9.setMany cs (k * 3) [.int .i64 (q), .int .i64 (q + 1), .bool ((q + 1 + 1) % 3 == 0)], by omega, by go_num, rfl, by have := HQ.out; omega, ?_, ?_, ?_, (grown_set (grown_set (grown_set HG.out _) _) _)⟩
    ·exact zb159
    ·rw [hfin, size_setMany, HSZ.out]
    ·rw [hfin]; have h := HF.out.put HX.out (by rw [HSZ.out, patQuestion_len]; omega); exact h
   case measure => simp [intOf]; omega
  ·exact zb80
theorem hdQuestionS_is (A : Option Addr) (c n : Nat) (hn : n ≤ 1048576) (m : Int) (h0 : 0 < m) (h1 : m ≤ 100000000) (w : World) (hR : Rds 3 patQuestion w A (mks m 3 n)) :
 Calls Tryz.prog 96 #[.slice A n c, .int .i64 m] w fun e w' => e = .returned (.int .i64 (m + 3 * n)) ∧ Below w.heap.size w w' := by
 go_enter Tryz.func96, Tryz.ntmps96
 exact zb18
def patOutcome (q : Int) : List Value := [.int .i64 (q), .int .i64 (q + 1), .bool ((q + 1 + 1) % 3 == 0)]
theorem patOutcome_len (q : Int) : (patOutcome q).length = 3 := rfl
theorem mkOutcomeS_is (B : Nat) (A : Option Addr) (c : Nat) (xs : List Out) (hn : xs.length ≤ 1048576) (m : Int) (h0 : 0 < m) (h1 : m ≤ 100000000) (w : World) (hO : OwnV B 44 3 Out.cells w (.slice A xs.length c) xs) :
 Calls Tryz.prog 94 #[.slice A xs.length c, .int .i64 m] w fun e w' => e = .returned (.int .i64 (m + 3 * xs.length)) ∧ OwnV B 44 3 patOutcome w' (.slice A xs.length c) (mks m 3 xs.length) ∧ w.grownBy w' (Value.slice A xs.length c).ownBlock := by
 by_cases hz : xs.length = 0
 ·have hx0 : xs = [] := List.length_eq_zero_iff.1 hz
  subst hx0
  clear hz; have hO' : OwnV B 44 3 patOutcome w (.slice A 0 c) (mks m 3 0) := hO.empty; have HO := lh hO'; clear hO hO'
  go_enter Tryz.func94, Tryz.ntmps94
  exact zb87
 obtain ⟨g, cap, cs0, hve, hB, hbk, hnc, hcm, hcs⟩ := hO.block (by omega)
 injection hve with hve1 _ hve2
 subst hve1 hve2
 have HC0 := lh hcs; have HB0 := lh hbk; clear hcs hbk hO hz
 go_enter Tryz.func94, Tryz.ntmps94
 go_wp2
 go_loopw [1, 5] (fun mv i wr => ∃ (k : Nat) (q : Int) (cs : Array Value), k ≤ xs.length ∧ i = .int .i64 k ∧ mv = .int .i64 q ∧ q = m + 3 * k ∧ Blk wr g 44 cs ∧ cs.size = c * 3 ∧ Filled 3 patOutcome (mks m 3 xs.length) k cs ∧ w.grownBy wr (some g)) (fun _ i _ => xs.length - (intOf i).toNat)
 case atStart => exact ⟨0, m, cs0, Nat.zero_le _, rfl, rfl, by simp, HB0.out, HC0.out, Filled.zero, grown_refl _ _⟩
 case round =>
  obtain ⟨k, q, cs, hk, rfl, rfl, hq, hBK, hsz, hF, hg⟩ := hrel
  have hq1 : 0 < q := by omega
  have hq2 : q ≤ 200000000 := by omega
  have HQ := lh hq; have HSZ := lh hsz; have HF := lh hF; have HG := lh hg; clear hq hsz hF hg
  by_cases hlt : k < xs.length
  ·have hx : (mks m 3 xs.length)[k]? = some q := by rw [mks_get hlt, HQ.out]
   have HX := lh hx; clear hx
   obtain ⟨v0, c0⟩ := hBK.some_ (k * 3) (by have hh := HSZ.out; omega)
   have z0 := hBK.frozen (k * 3)
   obtain ⟨v1, c1⟩ := hBK.some_ (k * 3 + 1) (by have hh := HSZ.out; omega)
   have z1 := hBK.frozen (k * 3 + 1)
   obtain ⟨v2, c2⟩ := hBK.some_ (k * 3 + 2) (by have hh := HSZ.out; omega)
   have z2 := hBK.frozen (k * 3 + 2)
   go_wp2
   go_roundw
   case rel =>
    have hfin : Go.G9.setMany cs (k * 3) [.int .i64 (q), .int .i64 (q + 1), .bool ((q + 1 + 1) % 3 == 0)] = Go.G9.setMany cs (k * 3) (patOutcome q) := by first | exact Go.G9.setMany_one cs _ _ _ | rfl
    refine ⟨k + 1, _, Go.G9.setMany cs (k * 3) [.int .i64 (q), .int .i64 (q + 1), .bool ((q + 1 + 1) % 3 == 0)], by omega, by go_num, rfl, by have := HQ.out; omega, ?_, ?_, ?_, (grown_set (grown_set (grown_set HG.out _) _) _)⟩
    ·exact zb159
    ·rw [hfin, size_setMany, HSZ.out]
    ·rw [hfin]; have h := HF.out.put HX.out (by rw [HSZ.out, patOutcome_len]; omega); exact h
   case measure => simp [intOf]; omega
  ·exact zb80
theorem hdOutcomeS_is (A : Option Addr) (c n : Nat) (hn : n ≤ 1048576) (m : Int) (h0 : 0 < m) (h1 : m ≤ 100000000) (w : World) (hR : Rds 3 patOutcome w A (mks m 3 n)) :
 Calls Tryz.prog 98 #[.slice A n c, .int .i64 m] w fun e w' => e = .returned (.int .i64 (m + 3 * n)) ∧ Below w.heap.size w w' := by
 go_enter Tryz.func98, Tryz.ntmps98
 exact zb18
open Go.RowKit Go.G9
def patRule (q : Int) : List Value := [.int .i64 (q), .string (markS (q + 1).toNat), .int .i64 (q + 1 + 1), .bool ((q + 1 + 1 + 1) % 3 == 0), .bool ((q + 1 + 1 + 1 + 1) % 3 == 0), .bool ((q + 1 + 1 + 1 + 1 + 1) % 3 == 0), .int .i64 (q + 1 + 1 + 1 + 1 + 1 + 1)]
theorem patRule_len (q : Int) : (patRule q).length = 7 := rfl
theorem mkRuleS_is (B : Nat) (A : Option Addr) (c : Nat) (xs : List Rul) (hn : xs.length ≤ 1048576) (m : Int) (h0 : 0 < m) (h1 : m ≤ 100000000) (w : World) (hO : OwnV B 48 7 Rul.cells w (.slice A xs.length c) xs) :
 Calls Tryz.prog 91 #[.slice A xs.length c, .int .i64 m] w fun e w' => e = .returned (.int .i64 (m + 7 * xs.length)) ∧ OwnV B 48 7 patRule w' (.slice A xs.length c) (mks m 7 xs.length) ∧ w.grownBy w' (Value.slice A xs.length c).ownBlock := by
 by_cases hz : xs.length = 0
 ·have hx0 : xs = [] := List.length_eq_zero_iff.1 hz
  subst hx0
  clear hz; have hO' : OwnV B 48 7 patRule w (.slice A 0 c) (mks m 7 0) := hO.empty; have HO := lh hO'; clear hO hO'
  go_enter Tryz.func91, Tryz.ntmps91
  exact zb87
 obtain ⟨g, cap, cs0, hve, hB, hbk, hnc, hcm, hcs⟩ := hO.block (by omega)
 injection hve with hve1 _ hve2
 subst hve1 hve2
 have HC0 := lh hcs; have HB0 := lh hbk; clear hcs hbk hO hz
 go_enter Tryz.func91, Tryz.ntmps91
 go_wp2
 go_loopw [1, 5] (fun mv i wr => ∃ (k : Nat) (q : Int) (cs : Array Value), k ≤ xs.length ∧ i = .int .i64 k ∧ mv = .int .i64 q ∧ q = m + 7 * k ∧ Blk wr g 48 cs ∧ cs.size = c * 7 ∧ Filled 7 patRule (mks m 7 xs.length) k cs ∧ w.grownBy wr (some g)) (fun _ i _ => xs.length - (intOf i).toNat)
 case atStart => exact ⟨0, m, cs0, Nat.zero_le _, rfl, rfl, by simp, HB0.out, HC0.out, Filled.zero, grown_refl _ _⟩
 case round =>
  obtain ⟨k, q, cs, hk, rfl, rfl, hq, hBK, hsz, hF, hg⟩ := hrel
  have hq1 : 0 < q := by omega
  have hq2 : q ≤ 200000000 := by omega
  have HQ := lh hq; have HSZ := lh hsz; have HF := lh hF; have HG := lh hg; clear hq hsz hF hg
  by_cases hlt : k < xs.length
  ·have hbl := hBK.lt
   have hx : (mks m 7 xs.length)[k]? = some q := by rw [mks_get hlt, HQ.out]
   have HX := lh hx; clear hx
   obtain ⟨v0, c0⟩ := hBK.some_ (k * 7) (by have hh := HSZ.out; omega)
   have z0 := hBK.frozen (k * 7)
   obtain ⟨v1, c1⟩ := hBK.some_ (k * 7 + 1) (by have hh := HSZ.out; omega)
   have z1 := hBK.frozen (k * 7 + 1)
   obtain ⟨v2, c2⟩ := hBK.some_ (k * 7 + 2) (by have hh := HSZ.out; omega)
   have z2 := hBK.frozen (k * 7 + 2)
   obtain ⟨v3, c3⟩ := hBK.some_ (k * 7 + 3) (by have hh := HSZ.out; omega)
   have z3 := hBK.frozen (k * 7 + 3)
   obtain ⟨v4, c4⟩ := hBK.some_ (k * 7 + 4) (by have hh := HSZ.out; omega)
   have z4 := hBK.frozen (k * 7 + 4)
   obtain ⟨v5, c5⟩ := hBK.some_ (k * 7 + 5) (by have hh := HSZ.out; omega)
   have z5 := hBK.frozen (k * 7 + 5)
   obtain ⟨v6, c6⟩ := hBK.some_ (k * 7 + 6) (by have hh := HSZ.out; omega)
   have z6 := hBK.frozen (k * 7 + 6)
   go_wp2_with fail
   refine (markTextI_is (q + 1) (by omega) (by omega) _).mono ?_
   rintro e w1 ⟨rfl, hb1⟩
   have hBK1 : Blk w1 g 48 (Go.G9.setMany cs (k * 7) [.int .i64 (q)]) := (Blk.setMany (k * 7) [.int .i64 (q)] hBK).below hb1 (by simpa using hbl); clear c0 z0 c1 z1 c2 z2 c3 z3 c4 z4 c5 z5 c6 z6; have hbl1 : g < w1.heap.size := hBK1.lt; replace hbl := hbl1
   obtain ⟨v1, c1⟩ := hBK1.some_ (k * 7 + 1) (by have hh := HSZ.out; (try simp only [size_setMany]); omega)
   have z1 := hBK1.frozen (k * 7 + 1)
   obtain ⟨v2, c2⟩ := hBK1.some_ (k * 7 + 2) (by have hh := HSZ.out; (try simp only [size_setMany]); omega)
   have z2 := hBK1.frozen (k * 7 + 2)
   obtain ⟨v3, c3⟩ := hBK1.some_ (k * 7 + 3) (by have hh := HSZ.out; (try simp only [size_setMany]); omega)
   have z3 := hBK1.frozen (k * 7 + 3)
   obtain ⟨v4, c4⟩ := hBK1.some_ (k * 7 + 4) (by have hh := HSZ.out; (try simp only [size_setMany]); omega)
   have z4 := hBK1.frozen (k * 7 + 4)
   obtain ⟨v5, c5⟩ := hBK1.some_ (k * 7 + 5) (by have hh := HSZ.out; (try simp only [size_setMany]); omega)
   have z5 := hBK1.frozen (k * 7 + 5)
   obtain ⟨v6, c6⟩ := hBK1.some_ (k * 7 + 6) (by have hh := HSZ.out; (try simp only [size_setMany]); omega)
   have z6 := hBK1.frozen (k * 7 + 6)
   go_wp2
   go_roundw
   case rel =>
    have hfin : Go.G9.setMany (Go.G9.setMany cs (k * 7) [.int .i64 (q)]) (k * 7 + 1) [.string (markS (q + 1).toNat), .int .i64 (q + 1 + 1), .bool ((q + 1 + 1 + 1) % 3 == 0), .bool ((q + 1 + 1 + 1 + 1) % 3 == 0), .bool ((q + 1 + 1 + 1 + 1 + 1) % 3 == 0), .int .i64 (q + 1 + 1 + 1 + 1 + 1 + 1)] = Go.G9.setMany cs (k * 7) (patRule q) := by first | exact Go.G9.setMany_one cs _ _ _ | rfl
    refine ⟨k + 1, _, Go.G9.setMany (Go.G9.setMany cs (k * 7) [.int .i64 (q)]) (k * 7 + 1) [.string (markS (q + 1).toNat), .int .i64 (q + 1 + 1), .bool ((q + 1 + 1 + 1) % 3 == 0), .bool ((q + 1 + 1 + 1 + 1) % 3 == 0), .bool ((q + 1 + 1 + 1 + 1 + 1) % 3 == 0), .int .i64 (q + 1 + 1 + 1 + 1 + 1 + 1)], by omega, by go_num, rfl, by have := HQ.out; omega, ?_, ?_, ?_, (grown_set (grown_set (grown_set (grown_set (grown_set (grown_set (grown_tr (grown_set HG.out _) (bgr hb1 _)) _) _) _) _) _) _)⟩
    ·exact Blk.setMany (k * 7 + 1) [.string (markS (q + 1).toNat), .int .i64 (q + 1 + 1), .bool ((q + 1 + 1 + 1) % 3 == 0), .bool ((q + 1 + 1 + 1 + 1) % 3 == 0), .bool ((q + 1 + 1 + 1 + 1 + 1) % 3 == 0), .int .i64 (q + 1 + 1 + 1 + 1 + 1 + 1)] hBK1
    ·rw [hfin, size_setMany, HSZ.out]
    ·rw [hfin]; have h := HF.out.put HX.out (by rw [HSZ.out, patRule_len]; omega); exact h
   case measure => simp [intOf]; omega
  ·obtain rfl : k = xs.length := by omega
   go_wp2
   go_ret
   refine ⟨ret_int (by have := HQ.out; omega), ?_, HG.out⟩
   have h := OwnV.ofBlk (B := B) (xs := mks m 7 xs.length) hBK hB (by rw [mks_len]; exact hnc) hcm HSZ.out (fun i x hx => HF.out i x (by have := (List.getElem?_eq_some_iff.1 hx).1; rwa [mks_len] at this) hx)
   rw [mks_len] at h
   exact h
open Go.RowKit Go.G9
theorem hdRuleS_is (A : Option Addr) (c n : Nat) (hn : n ≤ 1048576) (m : Int) (h0 : 0 < m) (h1 : m ≤ 100000000) (w : World) (hR : Rds 7 patRule w A (mks m 7 n)) :
 Calls Tryz.prog 95 #[.slice A n c, .int .i64 m] w fun e w' => e = .returned (.int .i64 (m + 7 * n)) ∧ Below w.heap.size w w' := by
 go_enter Tryz.func95, Tryz.ntmps95
 go_wp2
 go_loopw [1, 5] (fun mv i wr => ∃ (k : Nat) (q : Int), k ≤ n ∧ i = .int .i64 k ∧ mv = .int .i64 q ∧ q = m + 7 * k ∧ Below w.heap.size w wr) (fun _ i _ => n - (intOf i).toNat)
 case atStart => exact ⟨0, m, Nat.zero_le _, rfl, rfl, by simp, Below.refl _ _⟩
 case round =>
  obtain ⟨k, q, hk, rfl, rfl, hq, hb⟩ := hrel
  have hq1 : 0 < q := by omega
  have hq2 : q ≤ 200000000 := by omega
  have HQ := lh hq; clear hq
  by_cases hlt : k < n
  ·obtain ⟨b, off, x, rfl, hbl, hx, hcx⟩ := hR.at_ hb (k := k) (by rw [mks_len]; exact hlt)
   have hxq : x = q := by rw [mks_get hlt] at hx; rw [HQ.out]; exact (Option.some.inj hx).symm
   subst hxq
   have f0 := hcx 0 _ rfl; have f1 := hcx 1 _ rfl; have f2 := hcx 2 _ rfl; have f3 := hcx 3 _ rfl; have f4 := hcx 4 _ rfl; have f5 := hcx 5 _ rfl; have f6 := hcx 6 _ rfl
   simp only [Nat.add_zero] at f0
   clear hx hcx
   have hne3 : (!(((x + 1 + 1 + 1) % 3 == 0) == ((x + 1 + 1 + 1) % 3 == 0))) = false := by simp
   have hne4 : (!(((x + 1 + 1 + 1 + 1) % 3 == 0) == ((x + 1 + 1 + 1 + 1) % 3 == 0))) = false := by simp
   have hne5 : (!(((x + 1 + 1 + 1 + 1 + 1) % 3 == 0) == ((x + 1 + 1 + 1 + 1 + 1) % 3 == 0))) = false := by simp
   have g0 := f0 (Kin.self _); have g1 := f1 (Kin.self _); have g2 := f2 (Kin.self _); have g3 := f3 (Kin.self _); have g4 := f4 (Kin.self _); have g5 := f5 (Kin.self _); have g6 := f6 (Kin.self _)
   simp only [Kin.self] at g0
   simp only [Kin.self] at g1
   simp only [Kin.self] at g2
   simp only [Kin.self] at g3
   simp only [Kin.self] at g4
   simp only [Kin.self] at g5
   simp only [Kin.self] at g6
   go_wp2
   refine wp_region_kin (by kernel_rfl) (by kernel_rfl) ?_
   repeat (go_big_quiet_step (((go_at_call 150; exact Kin.call _ (by first | exact Nat.le_refl _ | omega) (markTextI_is (x + 1) (by omega) (by omega) _)))))
   refine wpQuiet_nil ?_
   intro K1
   clear g1 g2 g3 g4 g5 g6; replace hb := bth hb K1.below
   replace f1 := fun K => f1 (Kin.drop K K1.below)
   have g1 := f1 (Kin.self _)
   simp only [Kin.self, Kin.drop] at f1 g1
   replace f2 := fun K => f2 (Kin.drop K K1.below)
   have g2 := f2 (Kin.self _)
   simp only [Kin.self, Kin.drop] at f2 g2
   replace f3 := fun K => f3 (Kin.drop K K1.below)
   have g3 := f3 (Kin.self _)
   simp only [Kin.self, Kin.drop] at f3 g3
   replace f4 := fun K => f4 (Kin.drop K K1.below)
   have g4 := f4 (Kin.self _)
   simp only [Kin.self, Kin.drop] at f4 g4
   replace f5 := fun K => f5 (Kin.drop K K1.below)
   have g5 := f5 (Kin.self _)
   simp only [Kin.self, Kin.drop] at f5 g5
   replace f6 := fun K => f6 (Kin.drop K K1.below)
   have g6 := f6 (Kin.self _)
   simp only [Kin.self, Kin.drop] at f6 g6
   exact zb129
  ·exact zb156
open Go.RowKit Go.G9
theorem anyTake_no {T : Type} {p : T → Bool} {xs : List T} {k : Nat} (h : allTo (fun i => !atB p xs i) k = true) : (xs.take k).any p = false := by
 cases hc : (xs.take k).any p with
 | false => rfl
 | true =>
  obtain ⟨x, hx, hp⟩ := List.any_eq_true.1 hc
  obtain ⟨m, hm⟩ := List.mem_iff_getElem?.1 hx
  rw [List.getElem?_take] at hm
  split at hm
  ·rename_i hlt
   have := allTo_iff.1 h m hlt
   simp [atB, hm, hp] at this
  ·cases hm
theorem anyTake_yes {T : Type} {p : T → Bool} {xs : List T} {k m : Nat} {x : T} (hm : m < k) (hx : xs[m]? = some x) (hp : p x = true) : (xs.take k).any p = true :=
 List.any_eq_true.2 ⟨x, List.mem_iff_getElem?.2 ⟨m, by rw [List.getElem?_take, if_pos hm]; exact hx⟩, hp⟩
theorem rds_takeR {T : Type} {sz : Nat} {f : T → List Value} {w : World} {A : Option Addr} {xs : List T} (h : Rds sz f w A xs) (k : Nat) : Rds sz f w A (xs.take k) := by
 intro hn
 have hn0 : 0 < xs.length := by simp at hn; omega
 obtain ⟨b, off, h1, h2, h3⟩ := h hn0
 exact ⟨b, off, h1, h2, fun i x hx j u hu => h3 i x (by rw [List.getElem?_take] at hx; split at hx; exact hx; cases hx) j u hu⟩
theorem ruleStep_succ {xs : List Rul} {j : Nat} {x y : Rul} (hx : xs[j + 1]? = some x) (hy : xs[j]? = some y) : ruleStep xs (j + 1) = (ruleB x && (decide (y.id < x.id) && !(xs.take (j + 1)).any (fun z => z.name.toList == x.name.toList))) := by
 simp only [ruleStep, hx, hy]
theorem ruleNmF_is (nm : ByteArray) (g : Nat) (x : Rul) (W : World) (hg : W.cell? ⟨g, 1, none⟩ = some (.string nm)) (hl : g < W.heap.size) :
 Calls Tryz.prog 131 (#[.agg #[.int .i64 x.id, .string x.name, .int .i64 x.rank, .bool x.second, .bool x.debate, .bool x.amend, .int .i64 x.need]] ++ #[.pointer (some ⟨g, 0, none⟩)]) W fun e w' => e = .returned (.bool (x.name.toList == nm.toList)) ∧ Below W.heap.size W w' := by
 cases hb : x.name.toList == nm.toList
 all_goals
  have hb2 := lh hb
  go_enter Tryz.func131, Tryz.ntmps131
  go_wp2
  go_ret
  exact ⟨rfl, bl1 _ _⟩
theorem zb143 {p : Prop} (h : p := by
 obtain rfl : k = xs.length := by omega
 go_wp2
 go_ret
 exact ⟨ret_bool (by rw [rulesB, HL.out]; simp; omega), hb⟩) : p := h
theorem isValidRules_is (A : Option Addr) (c : Nat) (xs : List Rul) (hn : xs.length ≤ 1048576) (hc : xs.length ≤ c) (v : Bool) (hv : rulesB xs = v) (w : World) (hR : Rds 7 Rul.cells w A xs) :
 Calls Tryz.prog 69 #[.slice A xs.length c] w fun e w' => e = .returned (.bool v) ∧ Below w.heap.size w w' := by
 subst hv
 go_enter Tryz.func69, Tryz.ntmps69
 go_wp2
 go_loopw [7] (fun i wr => ∃ k : Nat, k ≤ xs.length ∧ i = .int .i64 k ∧ allTo (ruleStep xs) k = true ∧ Below w.heap.size w wr) (fun i _ => xs.length - (intOf i).toNat)
 case atStart => exact ⟨0, Nat.zero_le _, rfl, rfl, Below.refl _ _⟩
 case round =>
  obtain ⟨k, hk, rfl, hl, hb⟩ := hrel
  have HL := lh hl; clear hl
  by_cases hlt : k < xs.length
  ·have hkc : (k : Int) ≤ (c : Int) := by omega
   have hRw := hR.below hb
   obtain ⟨b, off, x, rfl, hbl, hx, hcx⟩ := hR.at_ hb hlt
   obtain ⟨id, nm, rk, se, de, am, nd, hs⟩ := x
   have hbx := fun j => boxed wr #[.int .i64 id, .string nm, .int .i64 rk, .bool se, .bool de, .bool am, .int .i64 nd] 48 j
   have n0 := hbx 0 _ rfl; have n1 := hbx 1 _ rfl; have n2 := hbx 2 _ rfl; have n3 := hbx 3 _ rfl; have n4 := hbx 4 _ rfl; have n5 := hbx 5 _ rfl; have n6 := hbx 6 _ rfl; clear hbx
   obtain ⟨d, hd⟩ : ∃ d, (xs.take k).any (fun z => z.name.toList == nm.toList) = d := ⟨_, rfl⟩
   have HCF : Hid (∀ W cc, Below (wr.alloc (.cells #[.int .i64 id, .string nm, .int .i64 rk, .bool se, .bool de, .bool am, .int .i64 nd] 48)).heap.size (wr.alloc (.cells #[.int .i64 id, .string nm, .int .i64 rk, .bool se, .bool de, .bool am, .int .i64 nd] 48)) W →
     Calls Tryz.prog 130 #[.slice (some ⟨b, off, none⟩) k cc, .func (.func 131) #[] #[.pointer (some ⟨wr.heap.size, 0, none⟩)]] W fun e w' => e = .returned (.bool d) ∧ Below W.heap.size W w') := lh fun W cc hW => by
    have hkl : (xs.take k).length = k := by rw [List.length_take]; omega
    have hB := Blk.below (Blk.new wr 48 #[.int .i64 id, .string nm, .int .i64 rk, .bool se, .bool de, .bool am, .int .i64 nd]) hW (by simp); have h := containsFunc_Rul (some ⟨b, off, none⟩) cc (xs.take k) (by omega) 131 #[.pointer (some ⟨wr.heap.size, 0, none⟩)] (run_enter Tryz.func131 (by kernel_rfl) (by kernel_rfl)) (fun z => z.name.toList == nm.toList) d hd W ((rds_takeR hRw k).below (bth (bl1 _ _) hW)) (fun x _ V hV => ruleNmF_is nm wr.heap.size x V ((hB.to hV).cell 1) (hB.to hV).lt)
    rw [hkl] at h; exact h
   have HD := lh hd; clear hd hRw
   cases k with
   | zero =>
    have hd0 : d = false := by rw [← HD.out]; rfl
    subst hd0
    have f0 := hcx 0 _ rfl; have f1 := hcx 1 _ rfl; have f2 := hcx 2 _ rfl; have f3 := hcx 3 _ rfl; have f4 := hcx 4 _ rfl; have f5 := hcx 5 _ rfl; have f6 := hcx 6 _ rfl
    simp only [Nat.zero_mul, Nat.add_zero] at f0
    simp only [Nat.zero_mul] at f1
    simp only [Nat.zero_mul] at f2
    simp only [Nat.zero_mul] at f3
    simp only [Nat.zero_mul] at f4
    simp only [Nat.zero_mul] at f5
    simp only [Nat.zero_mul] at f6
    have g0 := f0 (Kin.self _); have g1 := f1 (Kin.self _); have g2 := f2 (Kin.self _); have g3 := f3 (Kin.self _); have g4 := f4 (Kin.self _); have g5 := f5 (Kin.self _); have g6 := f6 (Kin.self _)
    simp only [Kin.self] at g0
    simp only [Kin.self] at g1
    simp only [Kin.self] at g2
    simp only [Kin.self] at g3
    simp only [Kin.self] at g4
    simp only [Kin.self] at g5
    simp only [Kin.self] at g6
    have HX := lh hx; clear hx hcx
    cases hv : ruleB ⟨id, nm, rk, se, de, am, nd, hs⟩
    all_goals
     have HV := lh hv
     go_wp2
     refine wp_region_kin (by kernel_rfl) (by kernel_rfl) ?_
     repeat (go_big_quiet_step ((first | (go_at_call 129; exact Kin.call _ (Nat.le_refl _) (isValidRule_is ⟨id, nm, rk, se, de, am, nd, hs⟩ _ HV.out _)) | (go_at_call 130; exact Kin.call _ (Nat.le_refl _) (HCF.out _ _ (Kin.below _))))))
     refine wpQuiet_nil ?_
     intro K
     go_wp2
    ·go_ret
     exact ⟨ret_bool (by rw [rulesB, allTo_not hlt (by simp [ruleStep, HX.out, hv])]; rfl), bth hb (bth (bl1 _ _) K.below)⟩
    ·go_roundw
     case rel => exact ⟨1, by omega, by go_num, allTo_go HL.out (by simp [ruleStep, HX.out, hv]), bth hb (bth (bl1 _ _) K.below)⟩
     case measure => simp [intOf]; omega
   | succ j =>
    obtain ⟨b', off', y, e', _, hy, hcy⟩ := hR.at_ hb (k := j) (by omega)
    simp only [Option.some.injEq, Addr.mk.injEq, and_true] at e'
    obtain ⟨rfl, rfl⟩ := e'
    obtain ⟨yid, yn, yr, ys, yd, ya, ynd, yok⟩ := y
    have f0 := hcx 0 _ rfl; have f1 := hcx 1 _ rfl; have f2 := hcx 2 _ rfl; have f3 := hcx 3 _ rfl; have f4 := hcx 4 _ rfl; have f5 := hcx 5 _ rfl; have f6 := hcx 6 _ rfl
    simp only [Nat.add_zero] at f0
    have g0 := f0 (Kin.self _); have g1 := f1 (Kin.self _); have g2 := f2 (Kin.self _); have g3 := f3 (Kin.self _); have g4 := f4 (Kin.self _); have g5 := f5 (Kin.self _); have g6 := f6 (Kin.self _)
    simp only [Kin.self] at g0
    simp only [Kin.self] at g1
    simp only [Kin.self] at g2
    simp only [Kin.self] at g3
    simp only [Kin.self] at g4
    simp only [Kin.self] at g5
    simp only [Kin.self] at g6
    have y0 := hcy 0 _ rfl
    simp only [Nat.add_zero] at y0
    have y0' := fun K : Kin (wr.alloc _).heap.size (wr.alloc (.cells #[.int .i64 id, .string nm, .int .i64 rk, .bool se, .bool de, .bool am, .int .i64 nd] 48)) => y0 (K.drop (bl1 _ _))
    simp only [Kin.drop] at y0'
    have HX := lh hx; clear hx hcx; have HY := lh hy; clear hy hcy y0
    cases hv : ruleB ⟨id, nm, rk, se, de, am, nd, hs⟩
    ·have HV := lh hv
     go_wp2
     refine wp_region_kin (by kernel_rfl) (by kernel_rfl) ?_
     repeat (go_big_quiet_step ((first | (go_at_call 129; exact Kin.call _ (Nat.le_refl _) (isValidRule_is ⟨id, nm, rk, se, de, am, nd, hs⟩ _ HV.out _)) | (go_at_call 130; exact Kin.call _ (Nat.le_refl _) (HCF.out _ _ (Kin.below _))))))
     refine wpQuiet_nil ?_
     intro K
     go_wp2
     go_ret
     exact ⟨ret_bool (by rw [rulesB, allTo_not hlt (by simp [ruleStep, HX.out, HY.out, hv])]; rfl), bth hb (bth (bl1 _ _) K.below)⟩
    ·have HV := lh hv
     by_cases hid : yid < id
     ·have hle : decide (id ≤ yid) = false := decide_eq_false (by omega)
      cases d
      all_goals
       go_wp2
       refine wp_region_kin (by kernel_rfl) (by kernel_rfl) ?_
       repeat (go_big_quiet_step ((first | (go_at_call 129; exact Kin.call _ (Nat.le_refl _) (isValidRule_is ⟨id, nm, rk, se, de, am, nd, hs⟩ _ HV.out _)) | (go_at_call 130; exact Kin.call _ (Nat.le_refl _) (HCF.out _ _ (Kin.below _))))))
       refine wpQuiet_nil ?_
       intro K
       go_wp2
      ·go_roundw
       case rel => exact ⟨j + 1 + 1, by omega, by go_num, allTo_go HL.out (by rw [ruleStep_succ HX.out HY.out, hv, HD.out, decide_eq_true (show (Rul.id ⟨yid, yn, yr, ys, yd, ya, ynd, yok⟩) < (Rul.id ⟨id, nm, rk, se, de, am, nd, hs⟩) from hid)]; rfl), bth hb (bth (bl1 _ _) K.below)⟩
       case measure => simp [intOf]; omega
      ·go_ret
       exact ⟨ret_bool (by rw [rulesB, allTo_not hlt (by rw [ruleStep_succ HX.out HY.out, hv, HD.out, decide_eq_true (show (Rul.id ⟨yid, yn, yr, ys, yd, ya, ynd, yok⟩) < (Rul.id ⟨id, nm, rk, se, de, am, nd, hs⟩) from hid)]; rfl)]; rfl), bth hb (bth (bl1 _ _) K.below)⟩
     ·have hle : decide (id ≤ yid) = true := decide_eq_true (by omega)
      go_wp2
      refine wp_region_kin (by kernel_rfl) (by kernel_rfl) ?_
      repeat (go_big_quiet_step ((first | (go_at_call 129; exact Kin.call _ (Nat.le_refl _) (isValidRule_is ⟨id, nm, rk, se, de, am, nd, hs⟩ _ HV.out _)) | (go_at_call 130; exact Kin.call _ (Nat.le_refl _) (HCF.out _ _ (Kin.below _))))))
      refine wpQuiet_nil ?_
      intro K
      go_wp2
      go_ret
      exact ⟨ret_bool (by rw [rulesB, allTo_not hlt (by rw [ruleStep_succ HX.out HY.out, hv, decide_eq_false (show ¬ (Rul.id ⟨yid, yn, yr, ys, yd, ya, ynd, yok⟩) < (Rul.id ⟨id, nm, rk, se, de, am, nd, hs⟩) from by show ¬ (yid < id); omega)]; rfl)]; rfl), bth hb (bth (bl1 _ _) K.below)⟩
  ·exact zb143
open Go.RowKit Go.G9
theorem idx_cases {T : Type} (p : T → Bool) : ∀ xs : List T, (xs.findIdx? p = none ∧ xs.find? p = none) ∨ ∃ (k : Nat) (x : T), xs.findIdx? p = some k ∧ xs[k]? = some x ∧ xs.find? p = some x
 | [] => .inl ⟨rfl, rfl⟩
 | y :: ys => by
  cases hp : p y
  ·rcases idx_cases p ys with ⟨h1, h2⟩ | ⟨k, x, h1, h2, h3⟩
   ·left; simp [List.findIdx?_cons, hp, h1, h2]
   ·right; exact ⟨k + 1, x, by simp [List.findIdx?_cons, hp, h1], by simpa using h2, by simp [hp, h3]⟩
  ·right; exact ⟨0, y, by simp [List.findIdx?_cons, hp], rfl, by simp [hp]⟩
theorem idxB_some {T : Type} {p : T → Bool} {xs : List T} {x : T} (h : xs.find? p = some x) : ∃ k : Nat, idxB p xs = k ∧ xs[k]? = some x := by
 rcases idx_cases p xs with ⟨h1, h2⟩ | ⟨k, y, h1, h2, h3⟩
 ·rw [h2] at h; cases h
 ·rw [h3] at h; cases h; exact ⟨k, by simp [idxB, h1], h2⟩
theorem idxB_nil {T : Type} {p : T → Bool} {xs : List T} (h : xs.find? p = none) : idxB p xs = -1 := by
 rcases idx_cases p xs with ⟨h1, h2⟩ | ⟨k, y, h1, h2, h3⟩
 ·simp [idxB, h1]
 ·rw [h3] at h; cases h
def fnd (rs : List Rul) (id : Int) : Option Rul := rs.find? (fun r => r.id == id)
def memB (n : Int) : Bool := inB n 1 99
def lackB (r : Rul) (q : Que) : Bool := r.second && !q.sec
theorem isMember_is (n : Int) (v : Bool) (hv : memB n = v) (w : World) : Calls Tryz.prog 57 #[.int .i64 n] w fun e w' => e = .returned (.bool v) ∧ w' = w := by
 go_enter Tryz.func57, Tryz.ntmps57
 go_wp2_with (go_at_call 118; refine (inside_is _ _ _ _ hv _).mono ?_; rintro e w' ⟨rfl, rfl⟩)
 go_ret
 exact ⟨rfl, rfl⟩
theorem l7Member_is (n : Int) (v : Bool) (hv : memB n = v) (w : World) : Calls Tryz.prog 77 #[.int .i64 n] w fun e w' => e = .returned (.bool v) ∧ w' = w := by
 go_enter Tryz.func77, Tryz.ntmps77
 go_wp2_with (go_at_call 136; refine (l1In_is _ _ _ _ hv _).mono ?_; rintro e w' ⟨rfl, rfl⟩)
 go_ret
 exact ⟨rfl, rfl⟩
theorem ruleOf_is (A : Option Addr) (c : Nat) (rs : List Rul) (hn : rs.length ≤ 1048576) (q : Que) (r : Rul) (hr : fnd rs q.rule = some r) (w : World) (hR : Rds 7 Rul.cells w A rs) :
 Calls Tryz.prog 64 #[.slice A rs.length c, .agg #[.int .i64 q.rule, .int .i64 q.mover, .bool q.sec]] w fun e w' => e = .returned (.agg #[.int .i64 r.id, .string r.name, .int .i64 r.rank, .bool r.second, .bool r.debate, .bool r.amend, .int .i64 r.need]) ∧ Below w.heap.size w w' := by
 obtain ⟨k, hi, hk⟩ := idxB_some hr
 have hlt : k < rs.length := (List.getElem?_eq_some_iff.1 hk).1; have HI := lh hi; clear hi hr
 go_enter Tryz.func64, Tryz.ntmps64
 go_upto_region 1 with fail
 refine lay2 fun wZ hq1 hQ hZ => ?_
 replace hR := hR.below hq1; have HB := hq1; have q' := hQ.cs3; have z0 := (hZ.cell 0).trans (show _ = some (.int .i64 0) from rfl); have z1 := (hZ.cell 1).trans (show _ = some (.string ⟨#[]⟩) from rfl); have z2 := (hZ.cell 2).trans (show _ = some (.int .i64 0) from rfl); have z3 := (hZ.cell 3).trans (show _ = some (.bool false) from rfl); have z4 := (hZ.cell 4).trans (show _ = some (.bool false) from rfl)
 have z5 := (hZ.cell 5).trans (show _ = some (.bool false) from rfl); have z6 := (hZ.cell 6).trans (show _ = some (.int .i64 0) from rfl); have hz0 := hZ.lt
 go_wp2_with fail
 refine (ruleIndex_is A c rs hn q.rule _ HI.out _ (hR.below bel)).mono ?_
 rintro e w2 ⟨rfl, hb2⟩
 have hq2 : Below wZ.heap.size wZ w2 := bth bel hb2; replace HB := bth HB hq2; replace hR := hR.below hq2; replace hQ := hQ.to hq2; clear q'; have q' := hQ.cs3; replace hZ := hZ.to hq2; replace z0 := (hZ.cell 0).trans (show _ = some (.int .i64 0) from rfl); replace z1 := (hZ.cell 1).trans (show _ = some (.string ⟨#[]⟩) from rfl); replace z2 := (hZ.cell 2).trans (show _ = some (.int .i64 0) from rfl)
 replace z3 := (hZ.cell 3).trans (show _ = some (.bool false) from rfl); replace z4 := (hZ.cell 4).trans (show _ = some (.bool false) from rfl); replace z5 := (hZ.cell 5).trans (show _ = some (.bool false) from rfl); replace z6 := (hZ.cell 6).trans (show _ = some (.int .i64 0) from rfl)
 obtain ⟨b, off, r', rfl, hbl, hx, hcx⟩ := hR.at_ (Below.refl _ _) hlt
 obtain rfl : r = r' := Option.some.inj (hk.symm.trans hx)
 have f0 := hcx 0 _ rfl; have f1 := hcx 1 _ rfl; have f2 := hcx 2 _ rfl; have f3 := hcx 3 _ rfl; have f4 := hcx 4 _ rfl; have f5 := hcx 5 _ rfl; have f6 := hcx 6 _ rfl
 simp only [Nat.add_zero] at f0
 have g0 := f0 (Kin.self _); have g1 := f1 (Kin.self _); have g2 := f2 (Kin.self _); have g3 := f3 (Kin.self _); have g4 := f4 (Kin.self _); have g5 := f5 (Kin.self _); have g6 := f6 (Kin.self _)
 simp only [Kin.self] at g0
 simp only [Kin.self] at g1
 simp only [Kin.self] at g2
 simp only [Kin.self] at g3
 simp only [Kin.self] at g4
 simp only [Kin.self] at g5
 simp only [Kin.self] at g6
 clear hx hcx hk; have fhZ' := hZ.fz7; have yhQ := hQ.lt; have yhZ := hZ.lt
 go_wp2
 clear q' z0 z1 z2 z3 z4 z5 z6
 refine st7 0 fun W9 tW9 => ?_
 replace HB := tW9.hb HB (by omega); replace hQ := tW9.far hQ (by omega); replace hZ := tW9.all7 hZ; have q' := hQ.cs3
 obtain ⟨z0, z1, z2, z3, z4, z5, z6⟩ := hZ.cs7
 refine bodyPost_ret (v := .agg #[.int .i64 r.id, .string r.name, .int .i64 r.rank, .bool r.second, .bool r.debate, .bool r.amend, .int .i64 r.need]) (by simp [results, Tryz.results64, go_sem, z0, z1, z2, z3, z4, z5, z6]) rfl ?_
 exact ⟨rfl, HB⟩
theorem lacksSecond_is (A : Option Addr) (c : Nat) (rs : List Rul) (hn : rs.length ≤ 1048576) (q : Que) (r : Rul) (hr : fnd rs q.rule = some r) (v : Bool) (hv : lackB r q = v) (w : World) (hR : Rds 7 Rul.cells w A rs) :
 Calls Tryz.prog 117 #[.slice A rs.length c, .agg #[.int .i64 q.rule, .int .i64 q.mover, .bool q.sec]] w fun e w' => e = .returned (.bool v) ∧ Below w.heap.size w w' := by
 subst hv
 obtain ⟨qr, qm, qs⟩ := q
 obtain ⟨id, nm, rk, se, de, am, nd, hs⟩ := r
 go_enter Tryz.func117, Tryz.ntmps117
 go_wp2_with fail
 refine (ruleOf_is A c rs hn ⟨qr, qm, qs⟩ ⟨id, nm, rk, se, de, am, nd, hs⟩ hr _ (hR.below (bl1 _ _))).mono ?_
 rintro e w1 ⟨rfl, hb1⟩
 have hQ := (Blk.new w 46 #[.int .i64 qr, .int .i64 qm, .bool qs]).below hb1 (by simp); have q2 := (hQ.cell 2).trans (show _ = some (.bool qs) from rfl); clear hr
 have hfd : ∀ W : World, (Instr.field 48 (.agg #[.int .i64 id, .string nm, .int .i64 rk, .bool se, .bool de, .bool am, .int .i64 nd]) 3).run Tryz.prog W = .ok (.bool se) W := fun _ => by kernel_rfl
 cases se <;> cases qs
 all_goals
  go_wp2
  go_ret
  exact ⟨by simp [lackB], bth (bl1 _ _) hb1⟩
theorem l7Lacks_is (A : Option Addr) (c : Nat) (rs : List Rul) (hn : rs.length ≤ 1048576) (q : Que) (r : Rul) (hr : fnd rs q.rule = some r) (v : Bool) (hv : lackB r q = v) (w : World) (hR : Rds 7 Rul.cells w A rs) :
 Calls Tryz.prog 126 #[.slice A rs.length c, .agg #[.int .i64 q.rule, .int .i64 q.mover, .bool q.sec]] w fun e w' => e = .returned (.bool v) ∧ Below w.heap.size w w' := by
 subst hv
 obtain ⟨k, hi, hk⟩ := idxB_some hr
 have hlt : k < rs.length := (List.getElem?_eq_some_iff.1 hk).1; have HI := lh hi; clear hi hr
 obtain ⟨b, off, r', rfl, hbl, hx, hcx⟩ := hR.at_ (bl1 w (.cells #[.int .i64 q.rule, .int .i64 q.mover, .bool q.sec] 46)) hlt
 obtain rfl : r = r' := Option.some.inj (hk.symm.trans hx)
 obtain ⟨qr, qm, qs⟩ := q
 obtain ⟨id, nm, rk, se, de, am, nd, hs⟩ := r
 have g3 := hcx 3 _ rfl (Kin.self _)
 simp only [Kin.self] at g3
 clear hcx hx
 cases se <;> cases qs
 all_goals
  go_enter Tryz.func126, Tryz.ntmps126
  go_wp2_with fail
  refine (l2Find_is _ c rs hn qr _ HI.out _ (hR.below (bl1 _ _))).mono ?_
  rintro e w1 ⟨rfl, rfl⟩
  go_wp2
  go_ret
  exact ⟨by simp [lackB], bl1 _ _⟩
theorem l7Rank_is (A : Option Addr) (c : Nat) (rs : List Rul) (hn : rs.length ≤ 1048576) (q : Que) (r : Rul) (hr : fnd rs q.rule = some r) (w : World) (hR : Rds 7 Rul.cells w A rs) :
 Calls Tryz.prog 161 #[.slice A rs.length c, .agg #[.int .i64 q.rule, .int .i64 q.mover, .bool q.sec]] w fun e w' => e = .returned (.int .i64 r.rank) ∧ Below w.heap.size w w' := by
 obtain ⟨k, hi, hk⟩ := idxB_some hr
 have hlt : k < rs.length := (List.getElem?_eq_some_iff.1 hk).1; have HI := lh hi; clear hi hr
 obtain ⟨b, off, r', rfl, hbl, hx, hcx⟩ := hR.at_ (bl1 w (.cells #[.int .i64 q.rule, .int .i64 q.mover, .bool q.sec] 46)) hlt
 obtain rfl : r = r' := Option.some.inj (hk.symm.trans hx)
 obtain ⟨qr, qm, qs⟩ := q
 obtain ⟨id, nm, rk, se, de, am, nd, hs⟩ := r
 have g2 := hcx 2 _ rfl (Kin.self _)
 simp only [Kin.self] at g2
 clear hcx hx
 go_enter Tryz.func161, Tryz.ntmps161
 go_wp2_with fail
 refine (l2Find_is _ c rs hn qr _ HI.out _ (hR.below (bl1 _ _))).mono ?_
 rintro e w1 ⟨rfl, rfl⟩
 go_wp2
 go_ret
 exact ⟨rfl, bl1 _ _⟩
theorem l2Good_is (A : Option Addr) (c : Nat) (xs : List Rul) (hn : xs.length ≤ 1048576) (v : Bool) (hv : rulesB xs = v) (w : World) (hR : Rds 7 Rul.cells w A xs) :
 Calls Tryz.prog 71 #[.slice A xs.length c] w fun e w' => e = .returned (.bool v) ∧ Below w.heap.size w w' := by
 subst hv
 go_enter Tryz.func71, Tryz.ntmps71
 go_wp2
 go_loopw [3, 4] (fun i _ wr => ∃ k : Nat, k ≤ xs.length ∧ k ≤ 9 ∧ i = .int .i64 k ∧ allTo (ruleStep xs) k = true ∧ Below w.heap.size w wr) (fun i _ _ => xs.length - (intOf i).toNat)
 case atStart => exact ⟨0, Nat.zero_le _, by omega, rfl, rfl, Below.refl _ _⟩
 case round =>
  obtain ⟨k, hk, hk9, rfl, hl, hb⟩ := hrel
  have HL := lh hl; clear hl
  by_cases hlt : k < xs.length
  ·by_cases h9 : k ≤ 8
   ·obtain ⟨b, off, x, hAe, hbl, hx, hcx⟩ := hR.at_ hb hlt
    have hRw := hR.below hb
    subst hAe
    obtain ⟨id, nm, rk, se, de, am, nd, hs⟩ := x
    cases k with
    | zero =>
     have f0 := hcx 0 _ rfl; have f1 := hcx 1 _ rfl; have f2 := hcx 2 _ rfl; have f3 := hcx 3 _ rfl; have f4 := hcx 4 _ rfl; have f5 := hcx 5 _ rfl; have f6 := hcx 6 _ rfl
     simp only [Nat.zero_mul, Nat.add_zero] at f0
     simp only [Nat.zero_mul] at f1
     simp only [Nat.zero_mul] at f2
     simp only [Nat.zero_mul] at f3
     simp only [Nat.zero_mul] at f4
     simp only [Nat.zero_mul] at f5
     simp only [Nat.zero_mul] at f6
     have f1' := f1; have g0 := f0 (Kin.self _); have g1 := f1 (Kin.self _); have g2 := f2 (Kin.self _); have g3 := f3 (Kin.self _); have g4 := f4 (Kin.self _); have g5 := f5 (Kin.self _); have g6 := f6 (Kin.self _)
     simp only [Kin.self] at g0
     simp only [Kin.self] at g1
     simp only [Kin.self] at g2
     simp only [Kin.self] at g3
     simp only [Kin.self] at g4
     simp only [Kin.self] at g5
     simp only [Kin.self] at g6
     have HX := lh hx; clear hx hcx
     cases hv : ruleB ⟨id, nm, rk, se, de, am, nd, hs⟩
     all_goals
      have HV := lh hv
      go_wp2
      refine wp_region_kin (by kernel_rfl) (by kernel_rfl) ?_
      repeat (go_big_quiet_step ((go_at_call 132; exact Kin.call _ (Nat.le_refl _) (l2Single_is ⟨id, nm, rk, se, de, am, nd, hs⟩ _ HV.out _))))
      refine wpQuiet_nil ?_
      intro K
      go_wp2
     ·go_ret
      exact ⟨ret_bool (by rw [rulesB, allTo_not hlt (by simp [ruleStep, HX.out, hv])]; rfl), bth hb K.below⟩
     ·go_loopw [4] (fun j wq => j = .int .i64 0 ∧ Below w.heap.size w wq) (fun _ _ => 0)
      case atStart => exact ⟨rfl, bth hb K.below⟩
      case round =>
       obtain ⟨rfl, hb2⟩ := hrel
       go_wp2
       go_roundw
       case rel => exact ⟨1, by omega, by omega, by go_num, allTo_go HL.out (by simp [ruleStep, HX.out, hv]), hb2⟩
       case measure => simp [intOf]; omega
    | succ j =>
     obtain ⟨b', off', y, e', _, hy, hcy⟩ := hR.at_ hb (k := j) (by omega)
     simp only [Option.some.injEq, Addr.mk.injEq, and_true] at e'
     obtain ⟨rfl, rfl⟩ := e'
     obtain ⟨yid, yn, yr, ys, yd, ya, ynd, yok⟩ := y
     have f0 := hcx 0 _ rfl; have f1 := hcx 1 _ rfl; have f2 := hcx 2 _ rfl; have f3 := hcx 3 _ rfl; have f4 := hcx 4 _ rfl; have f5 := hcx 5 _ rfl; have f6 := hcx 6 _ rfl
     simp only [Nat.add_zero] at f0
     have g0 := f0 (Kin.self _); have g1 := f1 (Kin.self _); have g2 := f2 (Kin.self _); have g3 := f3 (Kin.self _); have g4 := f4 (Kin.self _); have g5 := f5 (Kin.self _); have g6 := f6 (Kin.self _)
     simp only [Kin.self] at g0
     simp only [Kin.self] at g1
     simp only [Kin.self] at g2
     simp only [Kin.self] at g3
     simp only [Kin.self] at g4
     simp only [Kin.self] at g5
     simp only [Kin.self] at g6
     have y0 := hcy 0 _ rfl
     simp only [Nat.add_zero] at y0
     have HX := lh hx; clear hx hcx; have HY := lh hy; clear hy hcy
     cases hv : ruleB ⟨id, nm, rk, se, de, am, nd, hs⟩
     ·have HV := lh hv
      go_wp2
      refine wp_region_kin (by kernel_rfl) (by kernel_rfl) ?_
      repeat (go_big_quiet_step ((go_at_call 132; exact Kin.call _ (Nat.le_refl _) (l2Single_is ⟨id, nm, rk, se, de, am, nd, hs⟩ _ HV.out _))))
      refine wpQuiet_nil ?_
      intro K
      go_wp2
      go_ret
      exact ⟨ret_bool (by rw [rulesB, allTo_not hlt (by rw [ruleStep_succ HX.out HY.out, hv]; rfl)]; rfl), bth hb K.below⟩
     ·have HV := lh hv
      by_cases hid : yid < id
      ·have hle : decide (id ≤ yid) = false := decide_eq_false (by omega)
       go_wp2
       refine wp_region_kin (by kernel_rfl) (by kernel_rfl) ?_
       repeat (go_big_quiet_step ((go_at_call 132; exact Kin.call _ (Nat.le_refl _) (l2Single_is ⟨id, nm, rk, se, de, am, nd, hs⟩ _ HV.out _))))
       refine wpQuiet_nil ?_
       intro K
       go_wp2
       go_loopw [4] (fun i wq => ∃ m : Nat, m ≤ j + 1 ∧ i = .int .i64 m ∧ allTo (fun i => !atB (fun z : Rul => z.name.toList == nm.toList) xs i) m = true ∧ Below w.heap.size w wq) (fun i _ => j + 1 - (intOf i).toNat)
       case atStart => exact ⟨0, by omega, rfl, rfl, bth hb K.below⟩
       case round =>
        clear f0 f1 f2 f3 f4 f5 f6 g0 g1 g2 g3 g4 g5 g6 y0
        obtain ⟨m, hm, rfl, hml, hb2⟩ := hrel
        have HML := lh hml; clear hml
        by_cases hmk : m < j + 1
        ·obtain ⟨b3, off3, z, e3, _, hz, hcz⟩ := hR.at_ hb2 (k := m) (by omega)
         simp only [Option.some.injEq, Addr.mk.injEq, and_true] at e3
         obtain ⟨rfl, rfl⟩ := e3
         obtain ⟨b4, off4, x4, e4, _, hx4, hcx4⟩ := hR.at_ hb2 (k := j + 1) (by omega)
         simp only [Option.some.injEq, Addr.mk.injEq, and_true] at e4
         obtain ⟨rfl, rfl⟩ := e4
         obtain rfl : _ = x4 := Option.some.inj (HX.out.symm.trans hx4)
         have p1 := hcz 1 _ rfl; have q1 := hcx4 1 _ rfl; have HZ := lh hz; clear hz hcz hcx4 hx4
         cases hd : (z.name.toList == nm.toList)
         all_goals
          have HD := lh hd
          go_wp2
          refine wp_region_kin (by kernel_rfl) (by kernel_rfl) ?_
          repeat (go_big_quiet_step (fail))
          refine wpQuiet_nil ?_
          intro K2
          go_wp2
         ·go_roundw
          case rel => exact ⟨m + 1, by omega, by go_num, allTo_go HML.out (by simp [atB, HZ.out, HD.out]), bth hb2 K2.below⟩
          case measure => simp [intOf]; omega
         ·go_ret
          exact ⟨ret_bool (by rw [rulesB, allTo_not hlt (by rw [ruleStep_succ HX.out HY.out, anyTake_yes hmk HZ.out HD.out, hv]; simp)]; rfl), bth hb2 K2.below⟩
        ·obtain rfl : m = j + 1 := by omega
         go_wp2
         go_roundw
         case rel => exact ⟨j + 1 + 1, by omega, by omega, by go_num, allTo_go HL.out (by rw [ruleStep_succ HX.out HY.out, hv, anyTake_no HML.out, decide_eq_true (show (Rul.id ⟨yid, yn, yr, ys, yd, ya, ynd, yok⟩) < (Rul.id ⟨id, nm, rk, se, de, am, nd, hs⟩) from hid)]; rfl), hb2⟩
         case measure => simp [intOf]; omega
      ·have hle : decide (id ≤ yid) = true := decide_eq_true (by omega)
       go_wp2
       refine wp_region_kin (by kernel_rfl) (by kernel_rfl) ?_
       repeat (go_big_quiet_step ((go_at_call 132; exact Kin.call _ (Nat.le_refl _) (l2Single_is ⟨id, nm, rk, se, de, am, nd, hs⟩ _ HV.out _))))
       refine wpQuiet_nil ?_
       intro K
       go_wp2
       go_ret
       exact ⟨ret_bool (by rw [rulesB, allTo_not hlt (by rw [ruleStep_succ HX.out HY.out, hv, decide_eq_false (show ¬ (Rul.id ⟨yid, yn, yr, ys, yd, ya, ynd, yok⟩) < (Rul.id ⟨id, nm, rk, se, de, am, nd, hs⟩) from by show ¬ (yid < id); omega)]; rfl)]; rfl), bth hb K.below⟩
   ·have h8 : decide (xs.length ≤ 8) = false := decide_eq_false (by omega)
    go_wp2
    go_ret
    exact ⟨ret_bool (by rw [rulesB, h8, Bool.and_false]; exact decide_eq_false (by omega)), hb⟩
  ·exact zb143
end Go.Proofs.YtjimibkgocieoaaGreat
