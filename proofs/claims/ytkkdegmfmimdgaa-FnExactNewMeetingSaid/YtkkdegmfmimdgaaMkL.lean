/- Marks in slices of rules. -/
import Derived.Test.YtkkdegmfmimdgaaMk
import Derived.Test.YtkkdegmfmimdgaaRul2
import Derived.Test.YtkkdegmfmimdgaaInt2
namespace Go.Proofs.Ytkkdegmfmimdgaa
open Go.RowKit Go.G9
def patRule (q : Int) : List Value := [.int .i64 (q), .string (markS (q + 1).toNat), .int .i64 (q + 1 + 1), .bool ((q + 1 + 1 + 1) % 3 == 0), .bool ((q + 1 + 1 + 1 + 1) % 3 == 0), .bool ((q + 1 + 1 + 1 + 1 + 1) % 3 == 0), .int .i64 (q + 1 + 1 + 1 + 1 + 1 + 1)]
theorem patRule_len (q : Int) : (patRule q).length = 7 := rfl
set_option maxHeartbeats 4000000 in
set_option maxRecDepth 100000 in
theorem mkRuleS_is (B : Nat) (A : Option Addr) (c : Nat) (xs : List Rul) (hn : xs.length ≤ 1048576) (m : Int) (h0 : 0 < m) (h1 : m ≤ 100000000) (w : World) (hO : OwnV B 88 7 Rul.cells w (.slice A xs.length c) xs) :
  Calls Try.prog 26 #[.slice A xs.length c, .int .i64 m] w fun e w' => e = .returned (.int .i64 (m + 7 * xs.length)) ∧ OwnV B 88 7 patRule w' (.slice A xs.length c) (mks m 7 xs.length) ∧ w.grownBy w' (Value.slice A xs.length c).ownBlock := by
  by_cases hz : xs.length = 0
  · have hx0 : xs = [] := List.length_eq_zero_iff.1 hz
    subst hx0
    clear hz
    have hO' : OwnV B 88 7 patRule w (.slice A 0 c) (mks m 7 0) := hO.empty
    have HO := Lib.hid hO'; clear hO hO'
    go_enter Try.func26, Try.ntmps26
    go_wp2
    go_loopw [1, 5] (fun mv i wr => mv = .int .i64 m ∧ i = .int .i64 0 ∧ wr = w) (fun _ _ _ => 0)
    case atStart => exact ⟨rfl, rfl, rfl⟩
    case round =>
      obtain ⟨rfl, rfl, rfl⟩ := hrel
      go_wp2
      go_ret
      exact ⟨by simp, by simpa using HO.out, grown_refl _ _⟩
  obtain ⟨g, cap, cs0, hve, hB, hbk, hnc, hcm, hcs⟩ := hO.block (by omega)
  injection hve with hve1 _ hve2
  subst hve1 hve2
  have HC0 := Lib.hid hcs; have HB0 := Lib.hid hbk
  clear hcs hbk hO hz
  go_enter Try.func26, Try.ntmps26
  go_wp2
  go_loopw [1, 5] (fun mv i wr => ∃ (k : Nat) (q : Int) (cs : Array Value), k ≤ xs.length ∧ i = .int .i64 k ∧ mv = .int .i64 q ∧ q = m + 7 * k ∧ Blk wr g 88 cs ∧ cs.size = c * 7 ∧ Filled 7 patRule (mks m 7 xs.length) k cs ∧ w.grownBy wr (some g)) (fun _ i _ => xs.length - (intOf i).toNat)
  case atStart => exact ⟨0, m, cs0, Nat.zero_le _, rfl, rfl, by simp, HB0.out, HC0.out, Filled.zero, grown_refl _ _⟩
  case round =>
    obtain ⟨k, q, cs, hk, rfl, rfl, hq, hBK, hsz, hF, hg⟩ := hrel
    have hq1 : 0 < q := by omega
    have hq2 : q ≤ 200000000 := by omega
    have HQ := Lib.hid hq; have HSZ := Lib.hid hsz; have HF := Lib.hid hF; have HG := Lib.hid hg
    clear hq hsz hF hg
    by_cases hlt : k < xs.length
    · have hbl := hBK.lt
      have hx : (mks m 7 xs.length)[k]? = some q := by rw [mks_get hlt, HQ.out]
      have HX := Lib.hid hx; clear hx
      obtain ⟨v0, c0⟩ := hBK.some_ (k * 7) (by have hh := HSZ.out; omega)
      have z0 := hBK.frozen (k * 7)
      obtain ⟨v1, c1⟩ := hBK.some_ (k * 7 + 1) (by have hh := HSZ.out; omega)
      have z1 := hBK.frozen (k * 7 + 1)
      obtain ⟨v2, c2⟩ := hBK.some_ (k * 7 + 2) (by have hh := HSZ.out; omega)
      have z2 := hBK.frozen (k * 7 + 2)
      obtain ⟨v3, c3⟩ := hBK.some_ (k * 7 + 3) (by have hh := HSZ.out; omega)
      have z3 := hBK.frozen (k * 7 + 3)
      obtain ⟨v4, c4⟩ := hBK.some_ (k * 7 + 4) (by have hh := HSZ.out; omega)
      have z4 := hBK.frozen (k * 7 + 4)
      obtain ⟨v5, c5⟩ := hBK.some_ (k * 7 + 5) (by have hh := HSZ.out; omega)
      have z5 := hBK.frozen (k * 7 + 5)
      obtain ⟨v6, c6⟩ := hBK.some_ (k * 7 + 6) (by have hh := HSZ.out; omega)
      have z6 := hBK.frozen (k * 7 + 6)
      go_wp2_with fail
      refine (markTextI_is (q + 1) (by omega) (by omega) _).mono ?_
      rintro e w1 ⟨rfl, hb1⟩
      have hBK1 : Blk w1 g 88 (Go.G9.setMany cs (k * 7) [.int .i64 (q)]) := (Blk.setMany (k * 7) [.int .i64 (q)] hBK).below hb1 (by simpa using hbl)
      clear c0 z0 c1 z1 c2 z2 c3 z3 c4 z4 c5 z5 c6 z6
      have hbl1 : g < w1.heap.size := hBK1.lt
      replace hbl := hbl1
      obtain ⟨v1, c1⟩ := hBK1.some_ (k * 7 + 1) (by have hh := HSZ.out; (try simp only [size_setMany]); omega)
      have z1 := hBK1.frozen (k * 7 + 1)
      obtain ⟨v2, c2⟩ := hBK1.some_ (k * 7 + 2) (by have hh := HSZ.out; (try simp only [size_setMany]); omega)
      have z2 := hBK1.frozen (k * 7 + 2)
      obtain ⟨v3, c3⟩ := hBK1.some_ (k * 7 + 3) (by have hh := HSZ.out; (try simp only [size_setMany]); omega)
      have z3 := hBK1.frozen (k * 7 + 3)
      obtain ⟨v4, c4⟩ := hBK1.some_ (k * 7 + 4) (by have hh := HSZ.out; (try simp only [size_setMany]); omega)
      have z4 := hBK1.frozen (k * 7 + 4)
      obtain ⟨v5, c5⟩ := hBK1.some_ (k * 7 + 5) (by have hh := HSZ.out; (try simp only [size_setMany]); omega)
      have z5 := hBK1.frozen (k * 7 + 5)
      obtain ⟨v6, c6⟩ := hBK1.some_ (k * 7 + 6) (by have hh := HSZ.out; (try simp only [size_setMany]); omega)
      have z6 := hBK1.frozen (k * 7 + 6)
      go_wp2
      go_roundw
      case rel =>
        have hfin : Go.G9.setMany (Go.G9.setMany cs (k * 7) [.int .i64 (q)]) (k * 7 + 1) [.string (markS (q + 1).toNat), .int .i64 (q + 1 + 1), .bool ((q + 1 + 1 + 1) % 3 == 0), .bool ((q + 1 + 1 + 1 + 1) % 3 == 0), .bool ((q + 1 + 1 + 1 + 1 + 1) % 3 == 0), .int .i64 (q + 1 + 1 + 1 + 1 + 1 + 1)] = Go.G9.setMany cs (k * 7) (patRule q) := by first | exact Go.G9.setMany_one cs _ _ _ | rfl
        refine ⟨k + 1, _, Go.G9.setMany (Go.G9.setMany cs (k * 7) [.int .i64 (q)]) (k * 7 + 1) [.string (markS (q + 1).toNat), .int .i64 (q + 1 + 1), .bool ((q + 1 + 1 + 1) % 3 == 0), .bool ((q + 1 + 1 + 1 + 1) % 3 == 0), .bool ((q + 1 + 1 + 1 + 1 + 1) % 3 == 0), .int .i64 (q + 1 + 1 + 1 + 1 + 1 + 1)], by omega, by go_num, rfl, by have := HQ.out; omega, ?_, ?_, ?_, (grown_set (grown_set (grown_set (grown_set (grown_set (grown_set (grown_tr (grown_set HG.out _) (below_grown hb1 _)) _) _) _) _) _) _)⟩
        · exact Blk.setMany (k * 7 + 1) [.string (markS (q + 1).toNat), .int .i64 (q + 1 + 1), .bool ((q + 1 + 1 + 1) % 3 == 0), .bool ((q + 1 + 1 + 1 + 1) % 3 == 0), .bool ((q + 1 + 1 + 1 + 1 + 1) % 3 == 0), .int .i64 (q + 1 + 1 + 1 + 1 + 1 + 1)] hBK1
        · rw [hfin, size_setMany, HSZ.out]
        · rw [hfin]; have h := HF.out.put HX.out (by rw [HSZ.out, patRule_len]; omega); exact h
      case measure => simp [intOf]; omega
    · obtain rfl : k = xs.length := by omega
      go_wp2
      go_ret
      refine ⟨ret_int (by have := HQ.out; omega), ?_, HG.out⟩
      have h := OwnV.ofBlk (B := B) (xs := mks m 7 xs.length) hBK hB (by rw [mks_len]; exact hnc) hcm HSZ.out (fun i x hx => HF.out i x (by have := (List.getElem?_eq_some_iff.1 hx).1; rwa [mks_len] at this) hx)
      rw [mks_len] at h
      exact h
end Go.Proofs.Ytkkdegmfmimdgaa
