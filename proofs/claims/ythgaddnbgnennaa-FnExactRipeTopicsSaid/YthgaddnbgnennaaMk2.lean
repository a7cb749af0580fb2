/- Marks in slices of notices, texts. -/
import Derived.Test.YthgaddnbgnennaaMkI
import Derived.Test.YthgaddnbgnennaaNtc
namespace Go.Proofs.Ythgaddnbgnennaa
open Go.RowKit Go.G9
def patNotice (q : Int) : List Value := [.int .i64 (q), .string (markS (q + 1).toNat), .int .i64 (q + 1 + 1), .int .i64 (q + 1 + 1 + 1)]
theorem patNotice_len (q : Int) : (patNotice q).length = 4 := rfl
set_option maxHeartbeats 4000000 in
set_option maxRecDepth 100000 in
theorem mkNoticeS_is (B : Nat) (A : Option Addr) (c : Nat) (xs : List Ntc) (hn : xs.length ≤ 1048576) (m : Int) (h0 : 0 < m) (h1 : m ≤ 100000000) (w : World) (hO : OwnV B 72 4 Ntc.cells w (.slice A xs.length c) xs) :
  Calls Try.prog 28 #[.slice A xs.length c, .int .i64 m] w fun e w' => e = .returned (.int .i64 (m + 4 * xs.length)) ∧ OwnV B 72 4 patNotice w' (.slice A xs.length c) (mks m 4 xs.length) ∧ w.grownBy w' (Value.slice A xs.length c).ownBlock := by
  by_cases hz : xs.length = 0
  · have hx0 : xs = [] := List.length_eq_zero_iff.1 hz
    subst hx0
    clear hz
    have hO' : OwnV B 72 4 patNotice w (.slice A 0 c) (mks m 4 0) := hO.empty
    have HO := Lib.hid hO'; clear hO hO'
    go_enter Try.func28, Try.ntmps28
    go_wp2
    go_loopw [1, 5] (fun mv i wr => mv = .int .i64 m ∧ i = .int .i64 0 ∧ wr = w) (fun _ _ _ => 0)
    case atStart => exact ⟨rfl, rfl, rfl⟩
    case round =>
      obtain ⟨rfl, rfl, rfl⟩ := hrel
      go_wp2
      go_ret
      exact ⟨by simp, by simpa using HO.out, grown_refl _ _⟩
  obtain ⟨g, cap, cs0, hve, hB, hbk, hnc, hcm, hcs⟩ := hO.block (by omega)
  injection hve with hve1 _ hve2
  subst hve1 hve2
  have HC0 := Lib.hid hcs; have HB0 := Lib.hid hbk
  clear hcs hbk hO hz
  go_enter Try.func28, Try.ntmps28
  go_wp2
  go_loopw [1, 5] (fun mv i wr => ∃ (k : Nat) (q : Int) (cs : Array Value), k ≤ xs.length ∧ i = .int .i64 k ∧ mv = .int .i64 q ∧ q = m + 4 * k ∧ Blk wr g 72 cs ∧ cs.size = c * 4 ∧ Filled 4 patNotice (mks m 4 xs.length) k cs ∧ w.grownBy wr (some g)) (fun _ i _ => xs.length - (intOf i).toNat)
  case atStart => exact ⟨0, m, cs0, Nat.zero_le _, rfl, rfl, by simp, HB0.out, HC0.out, Filled.zero, grown_refl _ _⟩
  case round =>
    obtain ⟨k, q, cs, hk, rfl, rfl, hq, hBK, hsz, hF, hg⟩ := hrel
    have hq1 : 0 < q := by omega
    have hq2 : q ≤ 200000000 := by omega
    have HQ := Lib.hid hq; have HSZ := Lib.hid hsz; have HF := Lib.hid hF; have HG := Lib.hid hg
    clear hq hsz hF hg
    by_cases hlt : k < xs.length
    · have hbl := hBK.lt
      have hx : (mks m 4 xs.length)[k]? = some q := by rw [mks_get hlt, HQ.out]
      have HX := Lib.hid hx; clear hx
      obtain ⟨v0, c0⟩ := hBK.some_ (k * 4) (by have hh := HSZ.out; omega)
      have z0 := hBK.frozen (k * 4)
      obtain ⟨v1, c1⟩ := hBK.some_ (k * 4 + 1) (by have hh := HSZ.out; omega)
      have z1 := hBK.frozen (k * 4 + 1)
      obtain ⟨v2, c2⟩ := hBK.some_ (k * 4 + 2) (by have hh := HSZ.out; omega)
      have z2 := hBK.frozen (k * 4 + 2)
      obtain ⟨v3, c3⟩ := hBK.some_ (k * 4 + 3) (by have hh := HSZ.out; omega)
      have z3 := hBK.frozen (k * 4 + 3)
      go_wp2_with fail
      refine (markTextI_is (q + 1) (by omega) (by omega) _).mono ?_
      rintro e w1 ⟨rfl, hb1⟩
      have hBK1 : Blk w1 g 72 (Go.G9.setMany cs (k * 4) [.int .i64 (q)]) := (Blk.setMany (k * 4) [.int .i64 (q)] hBK).below hb1 (by simpa using hbl)
      clear c0 z0 c1 z1 c2 z2 c3 z3
      have hbl1 : g < w1.heap.size := hBK1.lt
      replace hbl := hbl1
      obtain ⟨v1, c1⟩ := hBK1.some_ (k * 4 + 1) (by have hh := HSZ.out; (try simp only [size_setMany]); omega)
      have z1 := hBK1.frozen (k * 4 + 1)
      obtain ⟨v2, c2⟩ := hBK1.some_ (k * 4 + 2) (by have hh := HSZ.out; (try simp only [size_setMany]); omega)
      have z2 := hBK1.frozen (k * 4 + 2)
      obtain ⟨v3, c3⟩ := hBK1.some_ (k * 4 + 3) (by have hh := HSZ.out; (try simp only [size_setMany]); omega)
      have z3 := hBK1.frozen (k * 4 + 3)
      go_wp2
      go_roundw
      case rel =>
        have hfin : Go.G9.setMany (Go.G9.setMany cs (k * 4) [.int .i64 (q)]) (k * 4 + 1) [.string (markS (q + 1).toNat), .int .i64 (q + 1 + 1), .int .i64 (q + 1 + 1 + 1)] = Go.G9.setMany cs (k * 4) (patNotice q) := rfl
        refine ⟨k + 1, _, Go.G9.setMany (Go.G9.setMany cs (k * 4) [.int .i64 (q)]) (k * 4 + 1) [.string (markS (q + 1).toNat), .int .i64 (q + 1 + 1), .int .i64 (q + 1 + 1 + 1)], by omega, by go_num, rfl, by have := HQ.out; omega, ?_, ?_, ?_, (grown_set (grown_set (grown_set (grown_tr (grown_set HG.out _) (below_grown hb1 _)) _) _) _)⟩
        · exact Blk.setMany (k * 4 + 1) [.string (markS (q + 1).toNat), .int .i64 (q + 1 + 1), .int .i64 (q + 1 + 1 + 1)] hBK1
        · rw [hfin, size_setMany, HSZ.out]
        · rw [hfin]; have h := HF.out.put HX.out (by rw [HSZ.out, patNotice_len]; omega); exact h
      case measure => simp [intOf]; omega
    · obtain rfl : k = xs.length := by omega
      go_wp2
      go_ret
      refine ⟨ret_int (by have := HQ.out; omega), ?_, HG.out⟩
      have h := OwnV.ofBlk (B := B) (xs := mks m 4 xs.length) hBK hB (by rw [mks_len]; exact hnc) hcm HSZ.out (fun i x hx => HF.out i x (by have := (List.getElem?_eq_some_iff.1 hx).1; rwa [mks_len] at this) hx)
      rw [mks_len] at h
      exact h
set_option maxHeartbeats 4000000 in
set_option maxRecDepth 100000 in
theorem hdNoticeS_is (A : Option Addr) (c n : Nat) (hn : n ≤ 1048576) (m : Int) (h0 : 0 < m) (h1 : m ≤ 100000000) (w : World) (hR : Rds 4 patNotice w A (mks m 4 n)) :
  Calls Try.prog 29 #[.slice A n c, .int .i64 m] w fun e w' => e = .returned (.int .i64 (m + 4 * n)) ∧ Below w.heap.size w w' := by
  go_enter Try.func29, Try.ntmps29
  go_wp2
  go_loopw [1, 5] (fun mv i wr => ∃ (k : Nat) (q : Int), k ≤ n ∧ i = .int .i64 k ∧ mv = .int .i64 q ∧ q = m + 4 * k ∧ Below w.heap.size w wr) (fun _ i _ => n - (intOf i).toNat)
  case atStart => exact ⟨0, m, Nat.zero_le _, rfl, rfl, by simp, Below.refl _ _⟩
  case round =>
    obtain ⟨k, q, hk, rfl, rfl, hq, hb⟩ := hrel
    have hq1 : 0 < q := by omega
    have hq2 : q ≤ 200000000 := by omega
    have HQ := Lib.hid hq; clear hq
    by_cases hlt : k < n
    · obtain ⟨b, off, x, rfl, hbl, hx, hcx⟩ := hR.at_ hb (k := k) (by rw [mks_len]; exact hlt)
      have hxq : x = q := by rw [mks_get hlt] at hx; rw [HQ.out]; exact (Option.some.inj hx).symm
      subst hxq
      have f0 := hcx 0 _ rfl
      have f1 := hcx 1 _ rfl
      have f2 := hcx 2 _ rfl
      have f3 := hcx 3 _ rfl
      simp only [Nat.add_zero] at f0
      clear hx hcx
      have g0 := f0 (Kin.self _)
      have g1 := f1 (Kin.self _)
      have g2 := f2 (Kin.self _)
      have g3 := f3 (Kin.self _)
      simp only [Kin.self] at g0
      simp only [Kin.self] at g1
      simp only [Kin.self] at g2
      simp only [Kin.self] at g3
      go_wp2
      refine wp_region_kin (by kernel_rfl) (by kernel_rfl) ?_
      repeat (go_big_quiet_step (((go_at_call 72; exact Kin.call _ (by first | exact Nat.le_refl _ | omega) (markTextI_is (x + 1) (by omega) (by omega) _)))))
      refine wpQuiet_nil ?_
      intro K1
      clear g1 g2 g3
      replace hb := bth hb K1.below
      replace f1 := fun K => f1 (Kin.drop K K1.below)
      have g1 := f1 (Kin.self _)
      simp only [Kin.self, Kin.drop] at f1 g1
      replace f2 := fun K => f2 (Kin.drop K K1.below)
      have g2 := f2 (Kin.self _)
      simp only [Kin.self, Kin.drop] at f2 g2
      replace f3 := fun K => f3 (Kin.drop K K1.below)
      have g3 := f3 (Kin.self _)
      simp only [Kin.self, Kin.drop] at f3 g3
      go_wp2
      go_roundw
      case rel => exact ⟨k + 1, _, by omega, by go_num, rfl, by have := HQ.out; omega, hb⟩
      case measure => simp [intOf]; omega
    · obtain rfl : k = n := by omega
      go_wp2
      go_ret
      exact ⟨ret_int (by have := HQ.out; omega), hb⟩
def patString (q : Int) : List Value := [.string (markS (q).toNat)]
theorem patString_len (q : Int) : (patString q).length = 1 := rfl
set_option maxHeartbeats 4000000 in
set_option maxRecDepth 100000 in
theorem mkStringS_is (B : Nat) (A : Option Addr) (c : Nat) (xs : List Str) (hn : xs.length ≤ 1048576) (m : Int) (h0 : 0 < m) (h1 : m ≤ 100000000) (w : World) (hO : OwnV B 9 1 Str.cells w (.slice A xs.length c) xs) :
  Calls Try.prog 38 #[.slice A xs.length c, .int .i64 m] w fun e w' => e = .returned (.int .i64 (m + xs.length)) ∧ OwnV B 9 1 patString w' (.slice A xs.length c) (mks m 1 xs.length) ∧ w.grownBy w' (Value.slice A xs.length c).ownBlock := by
  by_cases hz : xs.length = 0
  · have hx0 : xs = [] := List.length_eq_zero_iff.1 hz
    subst hx0
    clear hz
    have hO' : OwnV B 9 1 patString w (.slice A 0 c) (mks m 1 0) := hO.empty
    have HO := Lib.hid hO'; clear hO hO'
    go_enter Try.func38, Try.ntmps38
    go_wp2
    go_loopw [1, 5] (fun mv i wr => mv = .int .i64 m ∧ i = .int .i64 0 ∧ wr = w) (fun _ _ _ => 0)
    case atStart => exact ⟨rfl, rfl, rfl⟩
    case round =>
      obtain ⟨rfl, rfl, rfl⟩ := hrel
      go_wp2
      go_ret
      exact ⟨by simp, by simpa using HO.out, grown_refl _ _⟩
  obtain ⟨g, cap, cs0, hve, hB, hbk, hnc, hcm, hcs⟩ := hO.block (by omega)
  injection hve with hve1 _ hve2
  subst hve1 hve2
  have HC0 := Lib.hid hcs; have HB0 := Lib.hid hbk
  clear hcs hbk hO hz
  go_enter Try.func38, Try.ntmps38
  go_wp2
  go_loopw [1, 5] (fun mv i wr => ∃ (k : Nat) (q : Int) (cs : Array Value), k ≤ xs.length ∧ i = .int .i64 k ∧ mv = .int .i64 q ∧ q = m + 1 * k ∧ Blk wr g 9 cs ∧ cs.size = c * 1 ∧ Filled 1 patString (mks m 1 xs.length) k cs ∧ w.grownBy wr (some g)) (fun _ i _ => xs.length - (intOf i).toNat)
  case atStart => exact ⟨0, m, cs0, Nat.zero_le _, rfl, rfl, by simp, HB0.out, HC0.out, Filled.zero, grown_refl _ _⟩
  case round =>
    obtain ⟨k, q, cs, hk, rfl, rfl, hq, hBK, hsz, hF, hg⟩ := hrel
    have hq1 : 0 < q := by omega
    have hq2 : q ≤ 200000000 := by omega
    have HQ := Lib.hid hq; have HSZ := Lib.hid hsz; have HF := Lib.hid hF; have HG := Lib.hid hg
    clear hq hsz hF hg
    by_cases hlt : k < xs.length
    · have hbl := hBK.lt
      have hx : (mks m 1 xs.length)[k]? = some q := by rw [mks_get hlt, HQ.out]
      have HX := Lib.hid hx; clear hx
      go_wp2_with fail
      refine (markTextI_is (q) (by omega) (by omega) _).mono ?_
      rintro e w1 ⟨rfl, hb1⟩
      have hBK1 : Blk w1 g 9 cs := hBK.below hb1 (by simpa using hbl)
      have hbl1 : g < w1.heap.size := hBK1.lt
      replace hbl := hbl1
      obtain ⟨v0, c0⟩ := hBK1.some_ (k) (by have hh := HSZ.out; (try simp only [size_setMany]); omega)
      have z0 := hBK1.frozen (k)
      go_wp2
      go_roundw
      case rel =>
        have hfin : Go.G9.setMany cs (k) [.string (markS (q).toNat)] = Go.G9.setMany cs (k) (patString q) := rfl
        refine ⟨k + 1, _, Go.G9.setMany cs (k) [.string (markS (q).toNat)], by omega, by go_num, rfl, by have := HQ.out; omega, ?_, ?_, ?_, (grown_set (grown_tr HG.out (below_grown hb1 _)) _)⟩
        · exact Blk.setMany (k) [.string (markS (q).toNat)] hBK1
        · rw [hfin, size_setMany, HSZ.out]
        · rw [hfin]; have h := HF.out.put HX.out (by rw [HSZ.out, patString_len]; omega); rw [Nat.mul_one k] at h; exact h
      case measure => simp [intOf]; omega
    · obtain rfl : k = xs.length := by omega
      go_wp2
      go_ret
      refine ⟨ret_int (by have := HQ.out; omega), ?_, HG.out⟩
      have h := OwnV.ofBlk (B := B) (xs := mks m 1 xs.length) hBK hB (by rw [mks_len]; exact hnc) hcm HSZ.out (fun i x hx => HF.out i x (by have := (List.getElem?_eq_some_iff.1 hx).1; rwa [mks_len] at this) hx)
      rw [mks_len] at h
      exact h
set_option maxHeartbeats 4000000 in
set_option maxRecDepth 100000 in
theorem hdStringS_is (A : Option Addr) (c n : Nat) (hn : n ≤ 1048576) (m : Int) (h0 : 0 < m) (h1 : m ≤ 100000000) (w : World) (hR : Rds 1 patString w A (mks m 1 n)) :
  Calls Try.prog 39 #[.slice A n c, .int .i64 m] w fun e w' => e = .returned (.int .i64 (m + n)) ∧ Below w.heap.size w w' := by
  go_enter Try.func39, Try.ntmps39
  go_wp2
  go_loopw [1, 5] (fun mv i wr => ∃ (k : Nat) (q : Int), k ≤ n ∧ i = .int .i64 k ∧ mv = .int .i64 q ∧ q = m + 1 * k ∧ Below w.heap.size w wr) (fun _ i _ => n - (intOf i).toNat)
  case atStart => exact ⟨0, m, Nat.zero_le _, rfl, rfl, by simp, Below.refl _ _⟩
  case round =>
    obtain ⟨k, q, hk, rfl, rfl, hq, hb⟩ := hrel
    have hq1 : 0 < q := by omega
    have hq2 : q ≤ 200000000 := by omega
    have HQ := Lib.hid hq; clear hq
    by_cases hlt : k < n
    · obtain ⟨b, off, x, rfl, hbl, hx, hcx⟩ := hR.at_ hb (k := k) (by rw [mks_len]; exact hlt)
      have hxq : x = q := by rw [mks_get hlt] at hx; rw [HQ.out]; exact (Option.some.inj hx).symm
      subst hxq
      have f0 := hcx 0 _ rfl
      simp only [Nat.add_zero, Nat.mul_one] at f0
      clear hx hcx
      have g0 := f0 (Kin.self _)
      simp only [Kin.self] at g0
      go_wp2
      refine wp_region_kin (by kernel_rfl) (by kernel_rfl) ?_
      repeat (go_big_quiet_step (((go_at_call 72; exact Kin.call _ (by first | exact Nat.le_refl _ | omega) (markTextI_is (x) (by omega) (by omega) _)))))
      refine wpQuiet_nil ?_
      intro K1
      clear g0
      replace hb := bth hb K1.below
      replace f0 := fun K => f0 (Kin.drop K K1.below)
      have g0 := f0 (Kin.self _)
      simp only [Kin.self, Kin.drop] at f0 g0
      go_wp2
      go_roundw
      case rel => exact ⟨k + 1, _, by omega, by go_num, rfl, by have := HQ.out; omega, hb⟩
      case measure => simp [intOf]; omega
    · obtain rfl : k = n := by omega
      go_wp2
      go_ret
      exact ⟨ret_int (by have := HQ.out; omega), hb⟩
end Go.Proofs.Ythgaddnbgnennaa
