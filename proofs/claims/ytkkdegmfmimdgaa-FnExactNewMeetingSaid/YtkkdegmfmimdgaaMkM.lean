/- Marks in slices of questions, shares and outcomes. -/
import Derived.Test.YtkkdegmfmimdgaaMk
import Derived.Test.YtkkdegmfmimdgaaRul2
import Derived.Test.YtkkdegmfmimdgaaInt2
namespace Go.Proofs.Ytkkdegmfmimdgaa
open Go.RowKit Go.G9
def patShare (q : Int) : List Value := [.int .i64 (q), .int .i64 (q + 1), .int .i64 (q + 1 + 1)]
theorem patShare_len (q : Int) : (patShare q).length = 3 := rfl
set_option maxHeartbeats 4000000 in
set_option maxRecDepth 100000 in
theorem mkShareS_is (B : Nat) (A : Option Addr) (c : Nat) (xs : List Sha) (hn : xs.length ≤ 1048576) (m : Int) (h0 : 0 < m) (h1 : m ≤ 100000000) (w : World) (hO : OwnV B 114 3 Sha.cells w (.slice A xs.length c) xs) :
  Calls Try.prog 101 #[.slice A xs.length c, .int .i64 m] w fun e w' => e = .returned (.int .i64 (m + 3 * xs.length)) ∧ OwnV B 114 3 patShare w' (.slice A xs.length c) (mks m 3 xs.length) ∧ w.grownBy w' (Value.slice A xs.length c).ownBlock := by
  by_cases hz : xs.length = 0
  · have hx0 : xs = [] := List.length_eq_zero_iff.1 hz
    subst hx0
    clear hz
    have hO' : OwnV B 114 3 patShare w (.slice A 0 c) (mks m 3 0) := hO.empty
    have HO := Lib.hid hO'; clear hO hO'
    go_enter Try.func101, Try.ntmps101
    go_wp2
    go_loopw [1, 5] (fun mv i wr => mv = .int .i64 m ∧ i = .int .i64 0 ∧ wr = w) (fun _ _ _ => 0)
    case atStart => exact ⟨rfl, rfl, rfl⟩
    case round =>
      obtain ⟨rfl, rfl, rfl⟩ := hrel
      go_wp2
      go_ret
      exact ⟨by simp, by simpa using HO.out, grown_refl _ _⟩
  obtain ⟨g, cap, cs0, hve, hB, hbk, hnc, hcm, hcs⟩ := hO.block (by omega)
  injection hve with hve1 _ hve2
  subst hve1 hve2
  have HC0 := Lib.hid hcs; have HB0 := Lib.hid hbk
  clear hcs hbk hO hz
  go_enter Try.func101, Try.ntmps101
  go_wp2
  go_loopw [1, 5] (fun mv i wr => ∃ (k : Nat) (q : Int) (cs : Array Value), k ≤ xs.length ∧ i = .int .i64 k ∧ mv = .int .i64 q ∧ q = m + 3 * k ∧ Blk wr g 114 cs ∧ cs.size = c * 3 ∧ Filled 3 patShare (mks m 3 xs.length) k cs ∧ w.grownBy wr (some g)) (fun _ i _ => xs.length - (intOf i).toNat)
  case atStart => exact ⟨0, m, cs0, Nat.zero_le _, rfl, rfl, by simp, HB0.out, HC0.out, Filled.zero, grown_refl _ _⟩
  case round =>
    obtain ⟨k, q, cs, hk, rfl, rfl, hq, hBK, hsz, hF, hg⟩ := hrel
    have hq1 : 0 < q := by omega
    have hq2 : q ≤ 200000000 := by omega
    have HQ := Lib.hid hq; have HSZ := Lib.hid hsz; have HF := Lib.hid hF; have HG := Lib.hid hg
    clear hq hsz hF hg
    by_cases hlt : k < xs.length
    · have hbl := hBK.lt
      have hx : (mks m 3 xs.length)[k]? = some q := by rw [mks_get hlt, HQ.out]
      have HX := Lib.hid hx; clear hx
      obtain ⟨v0, c0⟩ := hBK.some_ (k * 3) (by have hh := HSZ.out; omega)
      have z0 := hBK.frozen (k * 3)
      obtain ⟨v1, c1⟩ := hBK.some_ (k * 3 + 1) (by have hh := HSZ.out; omega)
      have z1 := hBK.frozen (k * 3 + 1)
      obtain ⟨v2, c2⟩ := hBK.some_ (k * 3 + 2) (by have hh := HSZ.out; omega)
      have z2 := hBK.frozen (k * 3 + 2)
      go_wp2
      go_roundw
      case rel =>
        have hfin : Go.G9.setMany cs (k * 3) [.int .i64 (q), .int .i64 (q + 1), .int .i64 (q + 1 + 1)] = Go.G9.setMany cs (k * 3) (patShare q) := by first | exact Go.G9.setMany_one cs _ _ _ | rfl
        refine ⟨k + 1, _, Go.G9.setMany cs (k * 3) [.int .i64 (q), .int .i64 (q + 1), .int .i64 (q + 1 + 1)], by omega, by go_num, rfl, by have := HQ.out; omega, ?_, ?_, ?_, (grown_set (grown_set (grown_set HG.out _) _) _)⟩
        · exact Blk.setMany (k * 3) [.int .i64 (q), .int .i64 (q + 1), .int .i64 (q + 1 + 1)] hBK
        · rw [hfin, size_setMany, HSZ.out]
        · rw [hfin]; have h := HF.out.put HX.out (by rw [HSZ.out, patShare_len]; omega); exact h
      case measure => simp [intOf]; omega
    · obtain rfl : k = xs.length := by omega
      go_wp2
      go_ret
      refine ⟨ret_int (by have := HQ.out; omega), ?_, HG.out⟩
      have h := OwnV.ofBlk (B := B) (xs := mks m 3 xs.length) hBK hB (by rw [mks_len]; exact hnc) hcm HSZ.out (fun i x hx => HF.out i x (by have := (List.getElem?_eq_some_iff.1 hx).1; rwa [mks_len] at this) hx)
      rw [mks_len] at h
      exact h
set_option maxHeartbeats 4000000 in
set_option maxRecDepth 100000 in
theorem hdShareS_is (A : Option Addr) (c n : Nat) (hn : n ≤ 1048576) (m : Int) (h0 : 0 < m) (h1 : m ≤ 100000000) (w : World) (hR : Rds 3 patShare w A (mks m 3 n)) :
  Calls Try.prog 102 #[.slice A n c, .int .i64 m] w fun e w' => e = .returned (.int .i64 (m + 3 * n)) ∧ Below w.heap.size w w' := by
  go_enter Try.func102, Try.ntmps102
  go_wp2
  go_loopw [1, 5] (fun mv i wr => ∃ (k : Nat) (q : Int), k ≤ n ∧ i = .int .i64 k ∧ mv = .int .i64 q ∧ q = m + 3 * k ∧ Below w.heap.size w wr) (fun _ i _ => n - (intOf i).toNat)
  case atStart => exact ⟨0, m, Nat.zero_le _, rfl, rfl, by simp, Below.refl _ _⟩
  case round =>
    obtain ⟨k, q, hk, rfl, rfl, hq, hb⟩ := hrel
    have hq1 : 0 < q := by omega
    have hq2 : q ≤ 200000000 := by omega
    have HQ := Lib.hid hq; clear hq
    by_cases hlt : k < n
    · obtain ⟨b, off, x, rfl, hbl, hx, hcx⟩ := hR.at_ hb (k := k) (by rw [mks_len]; exact hlt)
      have hxq : x = q := by rw [mks_get hlt] at hx; rw [HQ.out]; exact (Option.some.inj hx).symm
      subst hxq
      have f0 := hcx 0 _ rfl
      have f1 := hcx 1 _ rfl
      have f2 := hcx 2 _ rfl
      simp only [Nat.add_zero] at f0
      clear hx hcx
      have g0 := f0 (Kin.self _)
      have g1 := f1 (Kin.self _)
      have g2 := f2 (Kin.self _)
      simp only [Kin.self] at g0
      simp only [Kin.self] at g1
      simp only [Kin.self] at g2
      go_wp2
      go_roundw
      case rel => exact ⟨k + 1, _, by omega, by go_num, rfl, by have := HQ.out; omega, hb⟩
      case measure => simp [intOf]; omega
    · obtain rfl : k = n := by omega
      go_wp2
      go_ret
      exact ⟨ret_int (by have := HQ.out; omega), hb⟩
def patQuestion (q : Int) : List Value := [.int .i64 (q), .int .i64 (q + 1), .bool ((q + 1 + 1) % 3 == 0)]
theorem patQuestion_len (q : Int) : (patQuestion q).length = 3 := rfl
set_option maxHeartbeats 4000000 in
set_option maxRecDepth 100000 in
theorem mkQuestionS_is (B : Nat) (A : Option Addr) (c : Nat) (xs : List Que) (hn : xs.length ≤ 1048576) (m : Int) (h0 : 0 < m) (h1 : m ≤ 100000000) (w : World) (hO : OwnV B 90 3 Que.cells w (.slice A xs.length c) xs) :
  Calls Try.prog 68 #[.slice A xs.length c, .int .i64 m] w fun e w' => e = .returned (.int .i64 (m + 3 * xs.length)) ∧ OwnV B 90 3 patQuestion w' (.slice A xs.length c) (mks m 3 xs.length) ∧ w.grownBy w' (Value.slice A xs.length c).ownBlock := by
  by_cases hz : xs.length = 0
  · have hx0 : xs = [] := List.length_eq_zero_iff.1 hz
    subst hx0
    clear hz
    have hO' : OwnV B 90 3 patQuestion w (.slice A 0 c) (mks m 3 0) := hO.empty
    have HO := Lib.hid hO'; clear hO hO'
    go_enter Try.func68, Try.ntmps68
    go_wp2
    go_loopw [1, 5] (fun mv i wr => mv = .int .i64 m ∧ i = .int .i64 0 ∧ wr = w) (fun _ _ _ => 0)
    case atStart => exact ⟨rfl, rfl, rfl⟩
    case round =>
      obtain ⟨rfl, rfl, rfl⟩ := hrel
      go_wp2
      go_ret
      exact ⟨by simp, by simpa using HO.out, grown_refl _ _⟩
  obtain ⟨g, cap, cs0, hve, hB, hbk, hnc, hcm, hcs⟩ := hO.block (by omega)
  injection hve with hve1 _ hve2
  subst hve1 hve2
  have HC0 := Lib.hid hcs; have HB0 := Lib.hid hbk
  clear hcs hbk hO hz
  go_enter Try.func68, Try.ntmps68
  go_wp2
  go_loopw [1, 5] (fun mv i wr => ∃ (k : Nat) (q : Int) (cs : Array Value), k ≤ xs.length ∧ i = .int .i64 k ∧ mv = .int .i64 q ∧ q = m + 3 * k ∧ Blk wr g 90 cs ∧ cs.size = c * 3 ∧ Filled 3 patQuestion (mks m 3 xs.length) k cs ∧ w.grownBy wr (some g)) (fun _ i _ => xs.length - (intOf i).toNat)
  case atStart => exact ⟨0, m, cs0, Nat.zero_le _, rfl, rfl, by simp, HB0.out, HC0.out, Filled.zero, grown_refl _ _⟩
  case round =>
    obtain ⟨k, q, cs, hk, rfl, rfl, hq, hBK, hsz, hF, hg⟩ := hrel
    have hq1 : 0 < q := by omega
    have hq2 : q ≤ 200000000 := by omega
    have HQ := Lib.hid hq; have HSZ := Lib.hid hsz; have HF := Lib.hid hF; have HG := Lib.hid hg
    clear hq hsz hF hg
    by_cases hlt : k < xs.length
    · have hbl := hBK.lt
      have hx : (mks m 3 xs.length)[k]? = some q := by rw [mks_get hlt, HQ.out]
      have HX := Lib.hid hx; clear hx
      obtain ⟨v0, c0⟩ := hBK.some_ (k * 3) (by have hh := HSZ.out; omega)
      have z0 := hBK.frozen (k * 3)
      obtain ⟨v1, c1⟩ := hBK.some_ (k * 3 + 1) (by have hh := HSZ.out; omega)
      have z1 := hBK.frozen (k * 3 + 1)
      obtain ⟨v2, c2⟩ := hBK.some_ (k * 3 + 2) (by have hh := HSZ.out; omega)
      have z2 := hBK.frozen (k * 3 + 2)
      go_wp2
      go_roundw
      case rel =>
        have hfin : Go.G9.setMany cs (k * 3) [.int .i64 (q), .int .i64 (q + 1), .bool ((q + 1 + 1) % 3 == 0)] = Go.G9.setMany cs (k * 3) (patQuestion q) := by first | exact Go.G9.setMany_one cs _ _ _ | rfl
        refine ⟨k + 1, _, Go.G9.setMany cs (k * 3) [.int .i64 (q), .int .i64 (q + 1), .bool ((q + 1 + 1) % 3 == 0)], by omega, by go_num, rfl, by have := HQ.out; omega, ?_, ?_, ?_, (grown_set (grown_set (grown_set HG.out _) _) _)⟩
        · exact Blk.setMany (k * 3) [.int .i64 (q), .int .i64 (q + 1), .bool ((q + 1 + 1) % 3 == 0)] hBK
        · rw [hfin, size_setMany, HSZ.out]
        · rw [hfin]; have h := HF.out.put HX.out (by rw [HSZ.out, patQuestion_len]; omega); exact h
      case measure => simp [intOf]; omega
    · obtain rfl : k = xs.length := by omega
      go_wp2
      go_ret
      refine ⟨ret_int (by have := HQ.out; omega), ?_, HG.out⟩
      have h := OwnV.ofBlk (B := B) (xs := mks m 3 xs.length) hBK hB (by rw [mks_len]; exact hnc) hcm HSZ.out (fun i x hx => HF.out i x (by have := (List.getElem?_eq_some_iff.1 hx).1; rwa [mks_len] at this) hx)
      rw [mks_len] at h
      exact h
set_option maxHeartbeats 4000000 in
set_option maxRecDepth 100000 in
theorem hdQuestionS_is (A : Option Addr) (c n : Nat) (hn : n ≤ 1048576) (m : Int) (h0 : 0 < m) (h1 : m ≤ 100000000) (w : World) (hR : Rds 3 patQuestion w A (mks m 3 n)) :
  Calls Try.prog 72 #[.slice A n c, .int .i64 m] w fun e w' => e = .returned (.int .i64 (m + 3 * n)) ∧ Below w.heap.size w w' := by
  go_enter Try.func72, Try.ntmps72
  go_wp2
  go_loopw [1, 5] (fun mv i wr => ∃ (k : Nat) (q : Int), k ≤ n ∧ i = .int .i64 k ∧ mv = .int .i64 q ∧ q = m + 3 * k ∧ Below w.heap.size w wr) (fun _ i _ => n - (intOf i).toNat)
  case atStart => exact ⟨0, m, Nat.zero_le _, rfl, rfl, by simp, Below.refl _ _⟩
  case round =>
    obtain ⟨k, q, hk, rfl, rfl, hq, hb⟩ := hrel
    have hq1 : 0 < q := by omega
    have hq2 : q ≤ 200000000 := by omega
    have HQ := Lib.hid hq; clear hq
    by_cases hlt : k < n
    · obtain ⟨b, off, x, rfl, hbl, hx, hcx⟩ := hR.at_ hb (k := k) (by rw [mks_len]; exact hlt)
      have hxq : x = q := by rw [mks_get hlt] at hx; rw [HQ.out]; exact (Option.some.inj hx).symm
      subst hxq
      have f0 := hcx 0 _ rfl
      have f1 := hcx 1 _ rfl
      have f2 := hcx 2 _ rfl
      simp only [Nat.add_zero] at f0
      clear hx hcx
      have hne2 : (!(((x + 1 + 1) % 3 == 0) == ((x + 1 + 1) % 3 == 0))) = false := by simp
      have g0 := f0 (Kin.self _)
      have g1 := f1 (Kin.self _)
      have g2 := f2 (Kin.self _)
      simp only [Kin.self] at g0
      simp only [Kin.self] at g1
      simp only [Kin.self] at g2
      go_wp2
      go_roundw
      case rel => exact ⟨k + 1, _, by omega, by go_num, rfl, by have := HQ.out; omega, hb⟩
      case measure => simp [intOf]; omega
    · obtain rfl : k = n := by omega
      go_wp2
      go_ret
      exact ⟨ret_int (by have := HQ.out; omega), hb⟩
def patOutcome (q : Int) : List Value := [.int .i64 (q), .int .i64 (q + 1), .bool ((q + 1 + 1) % 3 == 0)]
theorem patOutcome_len (q : Int) : (patOutcome q).length = 3 := rfl
set_option maxHeartbeats 4000000 in
set_option maxRecDepth 100000 in
theorem mkOutcomeS_is (B : Nat) (A : Option Addr) (c : Nat) (xs : List Out) (hn : xs.length ≤ 1048576) (m : Int) (h0 : 0 < m) (h1 : m ≤ 100000000) (w : World) (hO : OwnV B 81 3 Out.cells w (.slice A xs.length c) xs) :
  Calls Try.prog 70 #[.slice A xs.length c, .int .i64 m] w fun e w' => e = .returned (.int .i64 (m + 3 * xs.length)) ∧ OwnV B 81 3 patOutcome w' (.slice A xs.length c) (mks m 3 xs.length) ∧ w.grownBy w' (Value.slice A xs.length c).ownBlock := by
  by_cases hz : xs.length = 0
  · have hx0 : xs = [] := List.length_eq_zero_iff.1 hz
    subst hx0
    clear hz
    have hO' : OwnV B 81 3 patOutcome w (.slice A 0 c) (mks m 3 0) := hO.empty
    have HO := Lib.hid hO'; clear hO hO'
    go_enter Try.func70, Try.ntmps70
    go_wp2
    go_loopw [1, 5] (fun mv i wr => mv = .int .i64 m ∧ i = .int .i64 0 ∧ wr = w) (fun _ _ _ => 0)
    case atStart => exact ⟨rfl, rfl, rfl⟩
    case round =>
      obtain ⟨rfl, rfl, rfl⟩ := hrel
      go_wp2
      go_ret
      exact ⟨by simp, by simpa using HO.out, grown_refl _ _⟩
  obtain ⟨g, cap, cs0, hve, hB, hbk, hnc, hcm, hcs⟩ := hO.block (by omega)
  injection hve with hve1 _ hve2
  subst hve1 hve2
  have HC0 := Lib.hid hcs; have HB0 := Lib.hid hbk
  clear hcs hbk hO hz
  go_enter Try.func70, Try.ntmps70
  go_wp2
  go_loopw [1, 5] (fun mv i wr => ∃ (k : Nat) (q : Int) (cs : Array Value), k ≤ xs.length ∧ i = .int .i64 k ∧ mv = .int .i64 q ∧ q = m + 3 * k ∧ Blk wr g 81 cs ∧ cs.size = c * 3 ∧ Filled 3 patOutcome (mks m 3 xs.length) k cs ∧ w.grownBy wr (some g)) (fun _ i _ => xs.length - (intOf i).toNat)
  case atStart => exact ⟨0, m, cs0, Nat.zero_le _, rfl, rfl, by simp, HB0.out, HC0.out, Filled.zero, grown_refl _ _⟩
  case round =>
    obtain ⟨k, q, cs, hk, rfl, rfl, hq, hBK, hsz, hF, hg⟩ := hrel
    have hq1 : 0 < q := by omega
    have hq2 : q ≤ 200000000 := by omega
    have HQ := Lib.hid hq; have HSZ := Lib.hid hsz; have HF := Lib.hid hF; have HG := Lib.hid hg
    clear hq hsz hF hg
    by_cases hlt : k < xs.length
    · have hbl := hBK.lt
      have hx : (mks m 3 xs.length)[k]? = some q := by rw [mks_get hlt, HQ.out]
      have HX := Lib.hid hx; clear hx
      obtain ⟨v0, c0⟩ := hBK.some_ (k * 3) (by have hh := HSZ.out; omega)
      have z0 := hBK.frozen (k * 3)
      obtain ⟨v1, c1⟩ := hBK.some_ (k * 3 + 1) (by have hh := HSZ.out; omega)
      have z1 := hBK.frozen (k * 3 + 1)
      obtain ⟨v2, c2⟩ := hBK.some_ (k * 3 + 2) (by have hh := HSZ.out; omega)
      have z2 := hBK.frozen (k * 3 + 2)
      go_wp2
      go_roundw
      case rel =>
        have hfin : Go.G9.setMany cs (k * 3) [.int .i64 (q), .int .i64 (q + 1), .bool ((q + 1 + 1) % 3 == 0)] = Go.G9.setMany cs (k * 3) (patOutcome q) := by first | exact Go.G9.setMany_one cs _ _ _ | rfl
        refine ⟨k + 1, _, Go.G9.setMany cs (k * 3) [.int .i64 (q), .int .i64 (q + 1), .bool ((q + 1 + 1) % 3 == 0)], by omega, by go_num, rfl, by have := HQ.out; omega, ?_, ?_, ?_, (grown_set (grown_set (grown_set HG.out _) _) _)⟩
        · exact Blk.setMany (k * 3) [.int .i64 (q), .int .i64 (q + 1), .bool ((q + 1 + 1) % 3 == 0)] hBK
        · rw [hfin, size_setMany, HSZ.out]
        · rw [hfin]; have h := HF.out.put HX.out (by rw [HSZ.out, patOutcome_len]; omega); exact h
      case measure => simp [intOf]; omega
    · obtain rfl : k = xs.length := by omega
      go_wp2
      go_ret
      refine ⟨ret_int (by have := HQ.out; omega), ?_, HG.out⟩
      have h := OwnV.ofBlk (B := B) (xs := mks m 3 xs.length) hBK hB (by rw [mks_len]; exact hnc) hcm HSZ.out (fun i x hx => HF.out i x (by have := (List.getElem?_eq_some_iff.1 hx).1; rwa [mks_len] at this) hx)
      rw [mks_len] at h
      exact h
set_option maxHeartbeats 4000000 in
set_option maxRecDepth 100000 in
theorem hdOutcomeS_is (A : Option Addr) (c n : Nat) (hn : n ≤ 1048576) (m : Int) (h0 : 0 < m) (h1 : m ≤ 100000000) (w : World) (hR : Rds 3 patOutcome w A (mks m 3 n)) :
  Calls Try.prog 74 #[.slice A n c, .int .i64 m] w fun e w' => e = .returned (.int .i64 (m + 3 * n)) ∧ Below w.heap.size w w' := by
  go_enter Try.func74, Try.ntmps74
  go_wp2
  go_loopw [1, 5] (fun mv i wr => ∃ (k : Nat) (q : Int), k ≤ n ∧ i = .int .i64 k ∧ mv = .int .i64 q ∧ q = m + 3 * k ∧ Below w.heap.size w wr) (fun _ i _ => n - (intOf i).toNat)
  case atStart => exact ⟨0, m, Nat.zero_le _, rfl, rfl, by simp, Below.refl _ _⟩
  case round =>
    obtain ⟨k, q, hk, rfl, rfl, hq, hb⟩ := hrel
    have hq1 : 0 < q := by omega
    have hq2 : q ≤ 200000000 := by omega
    have HQ := Lib.hid hq; clear hq
    by_cases hlt : k < n
    · obtain ⟨b, off, x, rfl, hbl, hx, hcx⟩ := hR.at_ hb (k := k) (by rw [mks_len]; exact hlt)
      have hxq : x = q := by rw [mks_get hlt] at hx; rw [HQ.out]; exact (Option.some.inj hx).symm
      subst hxq
      have f0 := hcx 0 _ rfl
      have f1 := hcx 1 _ rfl
      have f2 := hcx 2 _ rfl
      simp only [Nat.add_zero] at f0
      clear hx hcx
      have hne2 : (!(((x + 1 + 1) % 3 == 0) == ((x + 1 + 1) % 3 == 0))) = false := by simp
      have g0 := f0 (Kin.self _)
      have g1 := f1 (Kin.self _)
      have g2 := f2 (Kin.self _)
      simp only [Kin.self] at g0
      simp only [Kin.self] at g1
      simp only [Kin.self] at g2
      go_wp2
      go_roundw
      case rel => exact ⟨k + 1, _, by omega, by go_num, rfl, by have := HQ.out; omega, hb⟩
      case measure => simp [intOf]; omega
    · obtain rfl : k = n := by omega
      go_wp2
      go_ret
      exact ⟨ret_int (by have := HQ.out; omega), hb⟩
end Go.Proofs.Ytkkdegmfmimdgaa
