/- The walk of the law of WithdrawNotice: the program's answer is the reference's, the argument stays, and the result is its own memory. -/
import Derived.Test.YthgaddnbgnennaaWn
import Derived.Deep.RegionHeld3
namespace Go.Proofs.Ythgaddnbgnennaa
open Go.RowKit Go.G9
set_option maxHeartbeats 8000000 in
set_option maxRecDepth 100000 in
theorem law_withdrawNotice (Axs : Option Addr) (cxs : Nat) (xs : List Ntc) (hxs : xs.length ≤ maxLen) (id : Int) (w : World) (Rxs : Rds 4 Ntc.cells w Axs xs) :
  Calls Try.prog 5 #[.slice Axs xs.length cxs, .int .i64 id] w fun e w' => e = .returned (.bool true) ∧ Below w.heap.size w w' := by
  go_enter Try.func5, Try.ntmps5
  go_wp2_with fail
  refine (szNoticeS_is Axs cxs xs hxs 1048576 (by omega) (by omega) _ (Rxs.below (by repeat (first | exact Below.refl _ _ | refine Below.alloc ?_ (by first | exact Nat.le_refl _ | (simp <;> omega)) _ | refine Below.setCell ?_ (by first | exact Nat.le_refl _ | (simp <;> omega)) _)))).mono ?_
  rintro e w1 ⟨r0, rfl, hr0, hs0, hl0, hb1⟩
  have hq1 : Below w.heap.size w w1 := bth (by repeat (first | exact Below.refl _ _ | refine Below.alloc ?_ (by first | exact Nat.le_refl _ | (simp <;> omega)) _ | refine Below.setCell ?_ (by first | exact Nat.le_refl _ | (simp <;> omega)) _)) hb1
  have z1 := hq1.size
  have HB : Below w.heap.size w w1 := hq1
  by_cases h00 : r0 < 0
  · go_wp2
    go_ret
    exact ⟨rfl, bth HB (by repeat (first | exact Below.refl _ _ | refine Below.alloc ?_ (by first | exact Nat.le_refl _ | (simp <;> omega)) _ | refine Below.setCell ?_ (by first | exact Nat.le_refl _ | (simp <;> omega)) _))⟩
  have hxs' : xs.length ≤ 1048576 := by omega
  clear hl0
  go_wp2_with fail
  refine (toNoticeS_is Axs cxs xs hxs' _ (Rxs.below (bth HB (by repeat (first | exact Below.refl _ _ | refine Below.alloc ?_ (by first | exact Nat.le_refl _ | (simp <;> omega)) _ | refine Below.setCell ?_ (by first | exact Nat.le_refl _ | (simp <;> omega)) _))))).mono ?_
  rintro e w2 ⟨As0, rfl, Os0, hb2⟩
  have hq2 : Below w1.heap.size w1 w2 := bth (by repeat (first | exact Below.refl _ _ | refine Below.alloc ?_ (by first | exact Nat.le_refl _ | (simp <;> omega)) _ | refine Below.setCell ?_ (by first | exact Nat.le_refl _ | (simp <;> omega)) _)) hb2
  have z2 := hq2.size
  replace HB := bth HB hq2
  have ins0 : Within [.slice As0 xs.length xs.length] (w1.heap.size) (w2.heap.size) := by
    intro v hv k hk
    simp only [List.mem_cons, List.not_mem_nil, or_false] at hv
    subst hv
    have h := Os0.lt k hk; (try simp at h); omega
  go_wp2_with fail
  refine (sWithdraw_is As0 xs.length xs hxs' id _ (Os0.rds.below (by repeat (first | exact Below.refl _ _ | refine Below.alloc ?_ (by first | exact Nat.le_refl _ | (simp <;> omega)) _ | refine Below.setCell ?_ (by first | exact Nat.le_refl _ | (simp <;> omega)) _))) (Nat.le_refl _)).mono ?_
  rintro e w3 ⟨Aw0, cw0, rfl, Ow0, hb3⟩
  have hq3 : Below w2.heap.size w2 w3 := bth (by repeat (first | exact Below.refl _ _ | refine Below.alloc ?_ (by first | exact Nat.le_refl _ | (simp <;> omega)) _ | refine Below.setCell ?_ (by first | exact Nat.le_refl _ | (simp <;> omega)) _)) hb3
  have z3 := hq3.size
  replace HB := bth HB hq3
  replace Os0 := Os0.later hq3
  have inw0 : Within [.slice Aw0 (wnL xs id).length cw0] (w2.heap.size) (w3.heap.size) := by
    intro v hv k hk
    simp only [List.mem_cons, List.not_mem_nil, or_false] at hv
    subst hv
    have h := Ow0.lt k hk; (try simp at h); omega
  go_wp2_with fail
  refine (toNoticeS_is Axs cxs xs hxs' _ (Rxs.below (bth HB (by repeat (first | exact Below.refl _ _ | refine Below.alloc ?_ (by first | exact Nat.le_refl _ | (simp <;> omega)) _ | refine Below.setCell ?_ (by first | exact Nat.le_refl _ | (simp <;> omega)) _))))).mono ?_
  rintro e w4 ⟨Ax0, rfl, Ox0, hb4⟩
  have hq4 : Below w3.heap.size w3 w4 := bth (by repeat (first | exact Below.refl _ _ | refine Below.alloc ?_ (by first | exact Nat.le_refl _ | (simp <;> omega)) _ | refine Below.setCell ?_ (by first | exact Nat.le_refl _ | (simp <;> omega)) _)) hb4
  have z4 := hq4.size
  replace HB := bth HB hq4
  replace Ow0 := Ow0.later hq4
  have inx0 : Within [.slice Ax0 xs.length xs.length] (w3.heap.size) (w4.heap.size) := by
    intro v hv k hk
    simp only [List.mem_cons, List.not_mem_nil, or_false] at hv
    subst hv
    have h := Ox0.lt k hk; (try simp at h); omega
  go_wp2_with fail
  refine (iWithdraw_is Ax0 xs.length xs hxs' id _ (Ox0.rds.below (by repeat (first | exact Below.refl _ _ | refine Below.alloc ?_ (by first | exact Nat.le_refl _ | (simp <;> omega)) _ | refine Below.setCell ?_ (by first | exact Nat.le_refl _ | (simp <;> omega)) _)))).mono ?_
  rintro e w5 ⟨Ag0, cg0, rfl, Og0, hb5⟩
  have hq5 : Below w4.heap.size w4 w5 := bth (by repeat (first | exact Below.refl _ _ | refine Below.alloc ?_ (by first | exact Nat.le_refl _ | (simp <;> omega)) _ | refine Below.setCell ?_ (by first | exact Nat.le_refl _ | (simp <;> omega)) _)) hb5
  have z5 := hq5.size
  replace HB := bth HB hq5
  replace Ow0 := Ow0.later hq5
  replace Ox0 := Ox0.later hq5
  have ing0 : Within [.slice Ag0 (wnL xs id).length cg0] (w4.heap.size) (w5.heap.size) := by
    intro v hv k hk
    simp only [List.mem_cons, List.not_mem_nil, or_false] at hv
    subst hv
    have h := Og0.lt k hk; (try simp at h); omega
  go_wp2_with fail
  refine (eqNoticeS_is Ag0 Aw0 cg0 cw0 (wnL xs id) (wnL_len xs id hxs') _ (Og0.rds.below (by repeat (first | exact Below.refl _ _ | refine Below.alloc ?_ (by first | exact Nat.le_refl _ | (simp <;> omega)) _ | refine Below.setCell ?_ (by first | exact Nat.le_refl _ | (simp <;> omega)) _))) (Ow0.rds.below (by repeat (first | exact Below.refl _ _ | refine Below.alloc ?_ (by first | exact Nat.le_refl _ | (simp <;> omega)) _ | refine Below.setCell ?_ (by first | exact Nat.le_refl _ | (simp <;> omega)) _)))).mono ?_
  rintro e w6 ⟨rfl, hb6⟩
  have hq6 : Below w5.heap.size w5 w6 := bth (by repeat (first | exact Below.refl _ _ | refine Below.alloc ?_ (by first | exact Nat.le_refl _ | (simp <;> omega)) _ | refine Below.setCell ?_ (by first | exact Nat.le_refl _ | (simp <;> omega)) _)) hb6
  have z6 := hq6.size
  replace HB := bth HB hq6
  replace Ow0 := Ow0.later hq6
  replace Ox0 := Ox0.later hq6
  replace Og0 := Og0.later hq6
  go_wp2_with fail
  refine (toNoticeS_is Axs cxs xs hxs' _ (Rxs.below (bth HB (by repeat (first | exact Below.refl _ _ | refine Below.alloc ?_ (by first | exact Nat.le_refl _ | (simp <;> omega)) _ | refine Below.setCell ?_ (by first | exact Nat.le_refl _ | (simp <;> omega)) _))))).mono ?_
  rintro e w7 ⟨Ay0, rfl, Oy0, hb7⟩
  have hq7 : Below w6.heap.size w6 w7 := bth (by repeat (first | exact Below.refl _ _ | refine Below.alloc ?_ (by first | exact Nat.le_refl _ | (simp <;> omega)) _ | refine Below.setCell ?_ (by first | exact Nat.le_refl _ | (simp <;> omega)) _)) hb7
  have z7 := hq7.size
  replace HB := bth HB hq7
  replace Ow0 := Ow0.later hq7
  replace Ox0 := Ox0.later hq7
  replace Og0 := Og0.later hq7
  have iny0 : Within [.slice Ay0 xs.length xs.length] (w6.heap.size) (w7.heap.size) := by
    intro v hv k hk
    simp only [List.mem_cons, List.not_mem_nil, or_false] at hv
    subst hv
    have h := Oy0.lt k hk; (try simp at h); omega
  go_wp2_with fail
  refine (eqNoticeS_is Ax0 Ay0 xs.length xs.length xs hxs' _ (Ox0.rds.below (by repeat (first | exact Below.refl _ _ | refine Below.alloc ?_ (by first | exact Nat.le_refl _ | (simp <;> omega)) _ | refine Below.setCell ?_ (by first | exact Nat.le_refl _ | (simp <;> omega)) _))) (Oy0.rds.below (by repeat (first | exact Below.refl _ _ | refine Below.alloc ?_ (by first | exact Nat.le_refl _ | (simp <;> omega)) _ | refine Below.setCell ?_ (by first | exact Nat.le_refl _ | (simp <;> omega)) _)))).mono ?_
  rintro e w8 ⟨rfl, hb8⟩
  have hq8 : Below w7.heap.size w7 w8 := bth (by repeat (first | exact Below.refl _ _ | refine Below.alloc ?_ (by first | exact Nat.le_refl _ | (simp <;> omega)) _ | refine Below.setCell ?_ (by first | exact Nat.le_refl _ | (simp <;> omega)) _)) hb8
  have z8 := hq8.size
  replace HB := bth HB hq8
  replace Ow0 := Ow0.later hq8
  replace Ox0 := Ox0.later hq8
  replace Og0 := Og0.later hq8
  replace Oy0 := Oy0.later hq8
  go_wp2_with fail
  refine (mkNoticeS_is _ Ax0 xs.length xs hxs' (1) (by omega) (by omega) _ Ox0).mono ?_
  rintro e w9 ⟨rfl, M9_0, hg9⟩
  have HG9 := grownL_one hg9
  have z9 := HG9.size
  replace HB := HB.trans (HG9.below inx0 (by omega) HB.size)
  replace Ow0 := Ow0.keptL HG9 inw0 inx0 (by simp) (by omega)
  replace Og0 := Og0.keptL HG9 ing0 inx0 (by simp) (by omega)
  go_wp2_with fail
  refine (eqNoticeS_is Ag0 Aw0 cg0 cw0 (wnL xs id) (wnL_len xs id hxs') _ (Og0.rds.below (by repeat (first | exact Below.refl _ _ | refine Below.alloc ?_ (by first | exact Nat.le_refl _ | (simp <;> omega)) _ | refine Below.setCell ?_ (by first | exact Nat.le_refl _ | (simp <;> omega)) _))) (Ow0.rds.below (by repeat (first | exact Below.refl _ _ | refine Below.alloc ?_ (by first | exact Nat.le_refl _ | (simp <;> omega)) _ | refine Below.setCell ?_ (by first | exact Nat.le_refl _ | (simp <;> omega)) _)))).mono ?_
  rintro e w10 ⟨rfl, hb10⟩
  have hq10 : Below w9.heap.size w9 w10 := bth (by repeat (first | exact Below.refl _ _ | refine Below.alloc ?_ (by first | exact Nat.le_refl _ | (simp <;> omega)) _ | refine Below.setCell ?_ (by first | exact Nat.le_refl _ | (simp <;> omega)) _)) hb10
  have z10 := hq10.size
  replace HB := bth HB hq10
  replace Ow0 := Ow0.later hq10
  replace Og0 := Og0.later hq10
  go_wp2_with fail
  refine (mkNoticeS_is _ Ag0 cg0 (wnL xs id) (wnL_len xs id hxs') (1) (by omega) (by omega) _ Og0).mono ?_
  rintro e w11 ⟨rfl, M11_0, hg11⟩
  have HG11 := grownL_one hg11
  have z11 := HG11.size
  replace HB := HB.trans (HG11.below ing0 (by omega) HB.size)
  replace Ow0 := Ow0.keptL HG11 inw0 ing0 (by simp) (by omega)
  go_wp2_with fail
  refine (hdNoticeS_is Ag0 cg0 _ (wnL_len xs id hxs') (1) (by omega) (by omega) _ (M11_0.rds.below (by repeat (first | exact Below.refl _ _ | refine Below.alloc ?_ (by first | exact Nat.le_refl _ | (simp <;> omega)) _ | refine Below.setCell ?_ (by first | exact Nat.le_refl _ | (simp <;> omega)) _)))).mono ?_
  rintro e w12 ⟨rfl, hb12⟩
  have hq12 : Below w11.heap.size w11 w12 := bth (by repeat (first | exact Below.refl _ _ | refine Below.alloc ?_ (by first | exact Nat.le_refl _ | (simp <;> omega)) _ | refine Below.setCell ?_ (by first | exact Nat.le_refl _ | (simp <;> omega)) _)) hb12
  have z12 := hq12.size
  replace HB := bth HB hq12
  replace Ow0 := Ow0.later hq12
  replace M11_0 := M11_0.later hq12
  go_wp2_with fail
  refine (toNoticeS_is Axs cxs xs hxs' _ (Rxs.below (bth HB (by repeat (first | exact Below.refl _ _ | refine Below.alloc ?_ (by first | exact Nat.le_refl _ | (simp <;> omega)) _ | refine Below.setCell ?_ (by first | exact Nat.le_refl _ | (simp <;> omega)) _))))).mono ?_
  rintro e w13 ⟨At0, rfl, Ot0, hb13⟩
  have hq13 : Below w12.heap.size w12 w13 := bth (by repeat (first | exact Below.refl _ _ | refine Below.alloc ?_ (by first | exact Nat.le_refl _ | (simp <;> omega)) _ | refine Below.setCell ?_ (by first | exact Nat.le_refl _ | (simp <;> omega)) _)) hb13
  have z13 := hq13.size
  replace HB := bth HB hq13
  replace Ow0 := Ow0.later hq13
  replace M11_0 := M11_0.later hq13
  have int0 : Within [.slice At0 xs.length xs.length] (w12.heap.size) (w13.heap.size) := by
    intro v hv k hk
    simp only [List.mem_cons, List.not_mem_nil, or_false] at hv
    subst hv
    have h := Ot0.lt k hk; (try simp at h); omega
  go_wp2_with fail
  refine (iWithdraw_is At0 xs.length xs hxs' id _ (Ot0.rds.below (by repeat (first | exact Below.refl _ _ | refine Below.alloc ?_ (by first | exact Nat.le_refl _ | (simp <;> omega)) _ | refine Below.setCell ?_ (by first | exact Nat.le_refl _ | (simp <;> omega)) _)))).mono ?_
  rintro e w14 ⟨Ah0, ch0, rfl, Oh0, hb14⟩
  have hq14 : Below w13.heap.size w13 w14 := bth (by repeat (first | exact Below.refl _ _ | refine Below.alloc ?_ (by first | exact Nat.le_refl _ | (simp <;> omega)) _ | refine Below.setCell ?_ (by first | exact Nat.le_refl _ | (simp <;> omega)) _)) hb14
  have z14 := hq14.size
  replace HB := bth HB hq14
  replace Ow0 := Ow0.later hq14
  replace M11_0 := M11_0.later hq14
  replace Ot0 := Ot0.later hq14
  have inh0 : Within [.slice Ah0 (wnL xs id).length ch0] (w13.heap.size) (w14.heap.size) := by
    intro v hv k hk
    simp only [List.mem_cons, List.not_mem_nil, or_false] at hv
    subst hv
    have h := Oh0.lt k hk; (try simp at h); omega
  go_wp2_with fail
  refine (eqNoticeS_is Ah0 Aw0 ch0 cw0 (wnL xs id) (wnL_len xs id hxs') _ (Oh0.rds.below (by repeat (first | exact Below.refl _ _ | refine Below.alloc ?_ (by first | exact Nat.le_refl _ | (simp <;> omega)) _ | refine Below.setCell ?_ (by first | exact Nat.le_refl _ | (simp <;> omega)) _))) (Ow0.rds.below (by repeat (first | exact Below.refl _ _ | refine Below.alloc ?_ (by first | exact Nat.le_refl _ | (simp <;> omega)) _ | refine Below.setCell ?_ (by first | exact Nat.le_refl _ | (simp <;> omega)) _)))).mono ?_
  rintro e w15 ⟨rfl, hb15⟩
  have hq15 : Below w14.heap.size w14 w15 := bth (by repeat (first | exact Below.refl _ _ | refine Below.alloc ?_ (by first | exact Nat.le_refl _ | (simp <;> omega)) _ | refine Below.setCell ?_ (by first | exact Nat.le_refl _ | (simp <;> omega)) _)) hb15
  have z15 := hq15.size
  replace HB := bth HB hq15
  replace Ow0 := Ow0.later hq15
  replace M11_0 := M11_0.later hq15
  replace Oh0 := Oh0.later hq15
  go_wp2_with fail
  refine (hdNoticeS_is Ag0 cg0 _ (wnL_len xs id hxs') (1) (by omega) (by omega) _ (M11_0.rds.below (by repeat (first | exact Below.refl _ _ | refine Below.alloc ?_ (by first | exact Nat.le_refl _ | (simp <;> omega)) _ | refine Below.setCell ?_ (by first | exact Nat.le_refl _ | (simp <;> omega)) _)))).mono ?_
  rintro e w16 ⟨rfl, hb16⟩
  have hq16 : Below w15.heap.size w15 w16 := bth (by repeat (first | exact Below.refl _ _ | refine Below.alloc ?_ (by first | exact Nat.le_refl _ | (simp <;> omega)) _ | refine Below.setCell ?_ (by first | exact Nat.le_refl _ | (simp <;> omega)) _)) hb16
  have z16 := hq16.size
  replace HB := bth HB hq16
  replace Ow0 := Ow0.later hq16
  replace M11_0 := M11_0.later hq16
  replace Oh0 := Oh0.later hq16
  go_wp2
  go_ret
  exact ⟨rfl, bth HB (by repeat (first | exact Below.refl _ _ | refine Below.alloc ?_ (by first | exact Nat.le_refl _ | (simp <;> omega)) _ | refine Below.setCell ?_ (by first | exact Nat.le_refl _ | (simp <;> omega)) _))⟩
end Go.Proofs.Ythgaddnbgnennaa
