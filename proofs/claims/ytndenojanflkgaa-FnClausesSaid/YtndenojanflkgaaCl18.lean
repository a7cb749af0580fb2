/- The draws of the law of clauses. -/
import Derived.Test.YtndenojanflkgaaCl17
import Derived.Outline
namespace Go.Proofs.Ytndenojanflkgaa
open Go.RowKit Go.G9
set_option maxHeartbeats 1000000 in
set_option maxRecDepth 100000 in
theorem drawStandingC_is (A : Option Addr) (c : Nat) (cs : List UInt8) (hcs : cs.length ≤ 1048576) (w : World) (hR : Rds 1 u8C w A cs) :
  Calls Try.prog 5 #[.slice A cs.length c] w fun e w' => ∃ (xs : List Cla) (Y : Option Addr) (y : Nat) (ad : List Bool) (D : Option Addr) (d : Nat), e = .returned (.tuple #[.slice Y xs.length y, .slice D ad.length d]) ∧ xs.length ≤ 20 ∧ ad.length ≤ 101 ∧ ClR w' Y xs ∧ Rds 1 blC w' D ad ∧ Below w.heap.size w w' := by
  go_enter Try.func5, Try.ntmps5
  go_upto_region 2 with fail
  have hlt : ∀ ad, A = some ad → 0 < cs.length → ad.block < w.heap.size := fun ad h h0 => by
    obtain ⟨b, off, h1, h2, _⟩ := hR h0
    rw [h1] at h; cases h; exact h2
  have hP := Blk.new w 45 #[.slice A cs.length c, .int .i64 0, .int .u64 0]
  have HB : Below w.heap.size w (w.alloc (.cells #[.slice A cs.length c, .int .i64 0, .int .u64 0] 45)) := bl1 w _
  generalize (w.alloc (.cells #[.slice A cs.length c, .int .i64 0, .int .u64 0] 45)) = wA at *
  have hC : Cur wA w.heap.size A c cs 0 := ⟨⟨0, 0, hP, by decide, by decide⟩, hR.below HB, fun ad h h0 => by have := hlt ad h h0; omega⟩
  have hPl := hP.lt
  obtain ⟨p, hpe⟩ : ∃ p, p = w.heap.size := ⟨_, rfl⟩
  rw [← hpe] at hC hPl
  obtain ⟨n0, hn0⟩ : ∃ n : Nat, n ≤ 0 := ⟨0, Nat.le_refl _⟩
  replace hC : Cur wA p A c cs n0 := hC.mono (Nat.zero_le _)
  simp only [← hpe]
  have hp := hC.lt
  have HG := grown_refl w (some p)
  replace HG : w.grownBy wA (some p) := below_grown HB _
  have szw : w.heap.size ≤ wA.heap.size := HB.size
  have hwp : w.heap.size ≤ p := by omega
  clear hR hlt hP HB
  go_wp2_with fail
  rw [← hpe]
  clear hpe
  refine (clauses_is p A c cs hcs n0 (by omega) _ hC).mono ?_
  rintro e wO ⟨xs, Y, y, rfl, hl, hL, hSO⟩
  replace HG := grown_tr HG hSO.2
  replace hC := hSO.1
  have hpA : p < wA.heap.size := hp
  go_wp2_with fail
  refine (adopted_is Y y xs.length (by omega) p A c cs hcs (n0 + 1000) (by omega) _ (hC.later (by repeat (first | exact Below.refl _ _ | refine Below.alloc ?_ (by first | exact Nat.le_refl _ | (simp <;> omega)) _ | refine Below.setCell ?_ (by first | exact Nat.le_refl _ | (simp <;> omega)) _)))).mono ?_
  rintro e w1 ⟨ad, D, d, rfl, hla, hD, hS1⟩
  have hg1 : wO.grownBy w1 (some p) := grown_tr (below_grown (by repeat (first | exact Below.refl _ _ | refine Below.alloc ?_ (by first | exact Nat.le_refl _ | (simp <;> omega)) _ | refine Below.setCell ?_ (by first | exact Nat.le_refl _ | (simp <;> omega)) _)) _) hS1.2
  replace hC := hS1.1
  have sz1 := hg1.size
  replace HG := grown_tr HG hg1
  replace hL := hL.keptR hg1 hpA
  go_wp2
  go_ret2
  exact ⟨xs, Y, y, ad, D, d, rfl, hl, hla, hL.rds (by omega), hD.rds blC_len, grown_below HG (Nat.le_refl _) (fun k hk => by cases hk; omega)⟩
theorem drawDividedC_is (A : Option Addr) (c : Nat) (cs : List UInt8) (hcs : cs.length ≤ 1048576) (w : World) (hR : Rds 1 u8C w A cs) :
  Calls Try.prog 16 #[.slice A cs.length c] w fun e w' => ∃ (xs : List Cla) (Y : Option Addr) (y : Nat) (ad : List Bool) (D : Option Addr) (d : Nat), e = .returned (.tuple #[.slice Y xs.length y, .slice D ad.length d]) ∧ xs.length ≤ 20 ∧ ad.length ≤ 101 ∧ ClR w' Y xs ∧ Rds 1 blC w' D ad ∧ Below w.heap.size w w' := by
  go_enter Try.func16, Try.ntmps16
  go_wp2_with fail
  refine (drawStandingC_is A c cs hcs _ hR).mono ?_
  rintro e w1 ⟨xs, Y, y, ad, D, d, rfl, hl, hla, hX, hD, hb⟩
  go_wp2
  go_ret2
  exact ⟨xs, Y, y, ad, D, d, rfl, hl, hla, hX, hD, hb⟩
set_option maxHeartbeats 2000000 in
set_option maxRecDepth 100000 in
theorem drawClosureC_is (A : Option Addr) (c : Nat) (cs : List UInt8) (hcs : cs.length ≤ 1048576) (w : World) (hR : Rds 1 u8C w A cs) :
  Calls Try.prog 20 #[.slice A cs.length c] w fun e w' => ∃ (xs : List Cla) (Y : Option Addr) (y : Nat) (ds : List Int) (D : Option Addr) (d : Nat), e = .returned (.tuple #[.slice Y xs.length y, .slice D ds.length d]) ∧ xs.length ≤ 20 ∧ ds.length ≤ 101 ∧ ClR w' Y xs ∧ Rds 1 intC w' D ds ∧ (D = none → ds = [] ∧ d = 0) ∧ Below w.heap.size w w' := by
  obtain ⟨k0, hk0, kz0, kz1, kz2⟩ := info_parts info_int
  go_enter Try.func20, Try.ntmps20
  go_upto_region 2 with fail
  have hlt : ∀ ad, A = some ad → 0 < cs.length → ad.block < w.heap.size := fun ad h h0 => by
    obtain ⟨b, off, h1, h2, _⟩ := hR h0
    rw [h1] at h; cases h; exact h2
  have hP := Blk.new w 45 #[.slice A cs.length c, .int .i64 0, .int .u64 0]
  have HB : Below w.heap.size w (w.alloc (.cells #[.slice A cs.length c, .int .i64 0, .int .u64 0] 45)) := bl1 w _
  generalize (w.alloc (.cells #[.slice A cs.length c, .int .i64 0, .int .u64 0] 45)) = wA at *
  have hC : Cur wA w.heap.size A c cs 0 := ⟨⟨0, 0, hP, by decide, by decide⟩, hR.below HB, fun ad h h0 => by have := hlt ad h h0; omega⟩
  have hPl := hP.lt
  obtain ⟨p, hpe⟩ : ∃ p, p = w.heap.size := ⟨_, rfl⟩
  rw [← hpe] at hC hPl
  obtain ⟨n0, hn0⟩ : ∃ n : Nat, n ≤ 0 := ⟨0, Nat.le_refl _⟩
  replace hC : Cur wA p A c cs n0 := hC.mono (Nat.zero_le _)
  simp only [← hpe]
  have hp := hC.lt
  have HG := grown_refl w (some p)
  replace HG : w.grownBy wA (some p) := below_grown HB _
  have szw : w.heap.size ≤ wA.heap.size := HB.size
  have hwp : w.heap.size ≤ p := by omega
  clear hR hlt hP HB
  go_wp2_with fail
  rw [← hpe]
  clear hpe
  refine (clauses_is p A c cs hcs n0 (by omega) _ hC).mono ?_
  rintro e wO ⟨xs, Y, y, rfl, hl, hL, hSO⟩
  replace HG := grown_tr HG hSO.2
  replace hC := hSO.1
  have hpA : p < wA.heap.size := hp
  have HPA := Lib.hid hpA
  have szO := hSO.2.size
  obtain ⟨h0, hh0⟩ : ∃ h, h = wO.heap.size := ⟨_, rfl⟩
  rw [← hh0] at hL
  have hO0 : OwnV h0 3 1 intC (wO.alloc (.cells #[] 3)) (.slice (some ⟨wO.heap.size, 0, none⟩) 0 0) [] := by rw [hh0]; exact OwnV.made wO (Nat.le_refl _) _
  have hC0 := hC.later (bl1 wO (.cells #[] 3))
  have HG0 := grown_tr HG (below_grown (bl1 wO (.cells #[] 3)) (some p))
  have hL0 := hL.later (bl1 wO (.cells #[] 3))
  have hhw : wA.heap.size ≤ h0 := by omega
  have hph : p < h0 := by omega
  go_wp2
  go_loopw [6, 7] (fun v i wr => ∃ (k : Nat) (ds : List Int), i = .int .i64 (k : Int) ∧ k ≤ xs.length ∧ ds.length ≤ k ∧ OwnV h0 3 1 intC wr v ds ∧ ClL wA.heap.size h0 wr (.slice Y xs.length y) xs ∧ h0 ≤ wr.heap.size ∧ Cur wr p A c cs (n0 + 1000 + 2 * k) ∧ w.grownBy wr (some p)) (fun _ i _ => xs.length - (intOf i).toNat)
  case atStart => exact ⟨0, [], rfl, Nat.zero_le _, Nat.le_refl _, hO0, hL0, by simp; omega, hC0.mono (by omega), HG0⟩
  case round =>
    clear hC HG hL hO0 hC0 HG0 hL0 hSO hp szO hh0
    obtain ⟨k, ds, rfl, hk, hdl, hO, hL, hhr, hC, HG⟩ := hrel
    obtain ⟨D, d, hDe, _, _, _⟩ := hO.form intC_len
    subst hDe
    have hsG := HG.size
    have hpr := hC.lt
    by_cases hlt : k < xs.length
    · go_wp2_with fail
      refine (one_is 3 p A c cs hcs (n0 + 1000 + 2 * k) (by omega) (by omega) _ (hC.later (by repeat (first | exact Below.refl _ _ | refine Below.alloc ?_ (by first | exact Nat.le_refl _ | (simp <;> omega)) _ | refine Below.setCell ?_ (by first | exact Nat.le_refl _ | (simp <;> omega)) _)))).mono ?_
      rintro e w1 ⟨b, rfl, hS1⟩
      have hg1 : wr.grownBy w1 (some p) := grown_tr (below_grown (by repeat (first | exact Below.refl _ _ | refine Below.alloc ?_ (by first | exact Nat.le_refl _ | (simp <;> omega)) _ | refine Below.setCell ?_ (by first | exact Nat.le_refl _ | (simp <;> omega)) _)) _) hS1.2
      replace hC := hS1.1
      have sz1 := hg1.size
      replace HG := grown_tr HG hg1
      replace hL := hL.keptR hg1 HPA.out
      replace hO := hO.kept hg1 (fun k hk e => by have := (hO.lt k hk).1; have := Option.some.inj e; omega)
      have hsK := hg1.size
      cases b
      · go_wp2
        go_roundw
        case rel => exact ⟨k + 1, ds, by go_num, by omega, by omega, hO, hL, by omega, hC.mono (by omega), HG⟩
        case measure => simp [intOf]; omega
      · go_wp2_with ((at_builtin; refine wpList_app1 rfl _ _ 28 rfl h0 3 k0 _ 1 8 Try.underlying28 hk0 kz0 kz1 kz2 rfl (by decide) intC intC_len intC_one _ ds rfl (hO.alloc _) ⟨w1.heap.size, 0, none⟩ 1 (k : Int) rfl (Rds.one _ _) (by unfold maxLen; omega) (by omega) (by simp; omega) ?_; intro v4 w4 hO4 hg4 ha4))
        have hC4 := (hC.later (bl1 _ _)).row hg4 (fun k hk => by have := (hO.lt k hk).1; omega)
        have HG4 := grown_row2 (grown_tr HG (below_grown (bl1 _ _) _)) hg4 (fun k hk => by have := (hO.lt k hk).1; omega)
        have hL4 := (hL.later (bl1 _ _)).keptO (hO.alloc _) hg4 (by decide) (Nat.le_refl _)
        have hs4 := hg4.size
        simp at hs4
        go_roundw
        case rel => exact ⟨k + 1, _, by go_num, by omega, by simp; omega, hO4, hL4, by omega, hC4.mono (by omega), HG4⟩
        case measure => simp [intOf]; omega
    · obtain rfl : k = xs.length := by omega
      go_wp2_with fail
      refine (one_is 16 p A c cs hcs (n0 + 1000 + 2 * xs.length) (by omega) (by omega) _ (hC.later (by repeat (first | exact Below.refl _ _ | refine Below.alloc ?_ (by first | exact Nat.le_refl _ | (simp <;> omega)) _ | refine Below.setCell ?_ (by first | exact Nat.le_refl _ | (simp <;> omega)) _)))).mono ?_
      rintro e w2 ⟨b, rfl, hS2⟩
      have hg2 : wr.grownBy w2 (some p) := grown_tr (below_grown (by repeat (first | exact Below.refl _ _ | refine Below.alloc ?_ (by first | exact Nat.le_refl _ | (simp <;> omega)) _ | refine Below.setCell ?_ (by first | exact Nat.le_refl _ | (simp <;> omega)) _)) _) hS2.2
      replace hC := hS2.1
      have sz2 := hg2.size
      replace HG := grown_tr HG hg2
      replace hL := hL.keptR hg2 HPA.out
      replace hO := hO.kept hg2 (fun k hk e => by have := (hO.lt k hk).1; have := Option.some.inj e; omega)
      have hsK := hg2.size
      cases b
      · go_wp2
        go_ret2
        exact ⟨xs, Y, y, ds, D, d, rfl, hl, by omega, hL.rds (by omega), hO.rds intC_len, hO.nilOk, grown_below HG (Nat.le_refl _) (fun k hk => by cases hk; omega)⟩
      · go_wp2_with fail
        refine (pick_is 9 p A c cs hcs (n0 + 1000 + 2 * xs.length + 2) (by omega) (by omega) _ (hC.later (by repeat (first | exact Below.refl _ _ | refine Below.alloc ?_ (by first | exact Nat.le_refl _ | (simp <;> omega)) _ | refine Below.setCell ?_ (by first | exact Nat.le_refl _ | (simp <;> omega)) _)))).mono ?_
        rintro e w3 ⟨q, rfl, _, hS3⟩
        have hg3 : w2.grownBy w3 (some p) := grown_tr (below_grown (by repeat (first | exact Below.refl _ _ | refine Below.alloc ?_ (by first | exact Nat.le_refl _ | (simp <;> omega)) _ | refine Below.setCell ?_ (by first | exact Nat.le_refl _ | (simp <;> omega)) _)) _) hS3.2
        replace hC := hS3.1
        have sz3 := hg3.size
        replace HG := grown_tr HG hg3
        replace hL := hL.keptR hg3 HPA.out
        replace hO := hO.kept hg3 (fun k hk e => by have := (hO.lt k hk).1; have := Option.some.inj e; omega)
        have hsK2 := hg3.size
        go_wp2_with ((at_builtin; refine wpList_app1 rfl _ _ 28 rfl h0 3 k0 _ 1 8 Try.underlying28 hk0 kz0 kz1 kz2 rfl (by decide) intC intC_len intC_one _ ds rfl (hO.alloc _) ⟨w3.heap.size, 0, none⟩ 1 q rfl (Rds.one _ _) (by unfold maxLen; omega) (by omega) (by simp; omega) ?_; intro v4 w4 hO4 hg4 ha4; obtain ⟨D2, d2, rfl, _, _, _⟩ := hO4.form intC_len))
        have HG4 := grown_row2 (grown_tr HG (below_grown (bl1 _ _) _)) hg4 (fun k hk => by have := (hO.lt k hk).1; omega)
        have hL4 := (hL.later (bl1 _ _)).keptO (hO.alloc _) hg4 (by decide) (Nat.le_refl _)
        go_ret2
        exact ⟨xs, Y, y, _, D2, d2, by simp, hl, by simp; omega, hL4.rds (by omega), hO4.rds intC_len, hO4.nilOk, grown_below HG4 (Nat.le_refl _) (fun k hk => by cases hk; omega)⟩
end Go.Proofs.Ytndenojanflkgaa
