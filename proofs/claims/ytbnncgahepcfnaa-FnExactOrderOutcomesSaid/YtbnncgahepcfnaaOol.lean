/- The law of OrderOutcomes: the program's answer is the reference's, the argument stays, and the result is its own memory. -/
import Derived.Test.YtbnncgahepcfnaaOoS
import Derived.Test.YtbnncgahepcfnaaMkR
import Derived.Test.YtbnncgahepcfnaaMkI
import Derived.Test.YtbnncgahepcfnaaLg
import Derived.Test.YtbnncgahepcfnaaRead
import Derived.Deep.RegionHeld3
namespace Go.Proofs.Ytbnncgahepcfnaa
open Go.RowKit Go.G9
theorem ooL_len (xs : List Res) (h : xs.length ≤ 1048576) : (ooL xs).length ≤ 1048576 := by
  unfold ooL; split
  · have := oo_len xs xs.length (Nat.le_refl _); omega
  · simp
set_option maxHeartbeats 8000000 in
set_option maxRecDepth 100000 in
theorem law_orderOutcomes (Axs : Option Addr) (cxs : Nat) (xs : List Res) (hxs : xs.length ≤ maxLen) (w : World) (Rxs : Rds 5 Res.cells w Axs xs) :
  Calls Try.prog 4 #[.slice Axs xs.length cxs] w fun e w' => e = .returned (.bool true) ∧ Below w.heap.size w w' := by
  go_enter Try.func4, Try.ntmps4
  go_wp2_with fail
  refine (szMotionResultS_is Axs cxs xs hxs 1048576 (by omega) (by omega) _ (Rxs.below (by repeat (first | exact Below.refl _ _ | refine Below.alloc ?_ (by first | exact Nat.le_refl _ | (simp <;> omega)) _ | refine Below.setCell ?_ (by first | exact Nat.le_refl _ | (simp <;> omega)) _)))).mono ?_
  rintro e w1 ⟨r0, rfl, hr0, hs0, hl0, hb1⟩
  have hq1 : Below w.heap.size w w1 := bth (by repeat (first | exact Below.refl _ _ | refine Below.alloc ?_ (by first | exact Nat.le_refl _ | (simp <;> omega)) _ | refine Below.setCell ?_ (by first | exact Nat.le_refl _ | (simp <;> omega)) _)) hb1
  have z1 := hq1.size
  have HB : Below w.heap.size w w1 := hq1
  by_cases h00 : r0 < 0
  · go_wp2
    go_ret
    exact ⟨rfl, bth HB (by repeat (first | exact Below.refl _ _ | refine Below.alloc ?_ (by first | exact Nat.le_refl _ | (simp <;> omega)) _ | refine Below.setCell ?_ (by first | exact Nat.le_refl _ | (simp <;> omega)) _))⟩
  have hxs' : xs.length ≤ 1048576 := by omega
  clear hl0
  go_wp2_with fail
  refine (toMotionResultS_is Axs cxs xs hxs' _ (Rxs.below (bth HB (by repeat (first | exact Below.refl _ _ | refine Below.alloc ?_ (by first | exact Nat.le_refl _ | (simp <;> omega)) _ | refine Below.setCell ?_ (by first | exact Nat.le_refl _ | (simp <;> omega)) _))))).mono ?_
  rintro e w2 ⟨As0, rfl, Os0, hb2⟩
  have hq2 : Below w1.heap.size w1 w2 := bth (by repeat (first | exact Below.refl _ _ | refine Below.alloc ?_ (by first | exact Nat.le_refl _ | (simp <;> omega)) _ | refine Below.setCell ?_ (by first | exact Nat.le_refl _ | (simp <;> omega)) _)) hb2
  have z2 := hq2.size
  replace HB := bth HB hq2
  have ins0 : Within [.slice As0 xs.length xs.length] (w1.heap.size) (w2.heap.size) := by
    intro v hv k hk
    simp only [List.mem_cons, List.not_mem_nil, or_false] at hv
    subst hv
    have h := Os0.lt k hk; (try simp at h); omega
  go_wp2_with fail
  refine (sOrder_is As0 xs.length xs hxs' _ (Os0.rds.below (by repeat (first | exact Below.refl _ _ | refine Below.alloc ?_ (by first | exact Nat.le_refl _ | (simp <;> omega)) _ | refine Below.setCell ?_ (by first | exact Nat.le_refl _ | (simp <;> omega)) _)))).mono ?_
  rintro e w3 ⟨Aw0, cw0, rfl, Ow0, hb3⟩
  have hq3 : Below w2.heap.size w2 w3 := bth (by repeat (first | exact Below.refl _ _ | refine Below.alloc ?_ (by first | exact Nat.le_refl _ | (simp <;> omega)) _ | refine Below.setCell ?_ (by first | exact Nat.le_refl _ | (simp <;> omega)) _)) hb3
  have z3 := hq3.size
  replace HB := bth HB hq3
  replace Os0 := Os0.later hq3
  have inw0 : Within [.slice Aw0 (ooL xs).length cw0] (w2.heap.size) (w3.heap.size) := by
    intro v hv k hk
    simp only [List.mem_cons, List.not_mem_nil, or_false] at hv
    subst hv
    have h := Ow0.lt k hk; (try simp at h); omega
  go_wp2_with fail
  refine (toMotionResultS_is Axs cxs xs hxs' _ (Rxs.below (bth HB (by repeat (first | exact Below.refl _ _ | refine Below.alloc ?_ (by first | exact Nat.le_refl _ | (simp <;> omega)) _ | refine Below.setCell ?_ (by first | exact Nat.le_refl _ | (simp <;> omega)) _))))).mono ?_
  rintro e w4 ⟨Ax0, rfl, Ox0, hb4⟩
  have hq4 : Below w3.heap.size w3 w4 := bth (by repeat (first | exact Below.refl _ _ | refine Below.alloc ?_ (by first | exact Nat.le_refl _ | (simp <;> omega)) _ | refine Below.setCell ?_ (by first | exact Nat.le_refl _ | (simp <;> omega)) _)) hb4
  have z4 := hq4.size
  replace HB := bth HB hq4
  replace Ow0 := Ow0.later hq4
  have inx0 : Within [.slice Ax0 xs.length xs.length] (w3.heap.size) (w4.heap.size) := by
    intro v hv k hk
    simp only [List.mem_cons, List.not_mem_nil, or_false] at hv
    subst hv
    have h := Ox0.lt k hk; (try simp at h); omega
  go_wp2_with fail
  refine (iOrder_is Ax0 xs.length xs hxs' _ (Ox0.rds.below (by repeat (first | exact Below.refl _ _ | refine Below.alloc ?_ (by first | exact Nat.le_refl _ | (simp <;> omega)) _ | refine Below.setCell ?_ (by first | exact Nat.le_refl _ | (simp <;> omega)) _)))).mono ?_
  rintro e w5 ⟨Ag0, cg0, rfl, Og0, hb5⟩
  have hq5 : Below w4.heap.size w4 w5 := bth (by repeat (first | exact Below.refl _ _ | refine Below.alloc ?_ (by first | exact Nat.le_refl _ | (simp <;> omega)) _ | refine Below.setCell ?_ (by first | exact Nat.le_refl _ | (simp <;> omega)) _)) hb5
  have z5 := hq5.size
  replace HB := bth HB hq5
  replace Ow0 := Ow0.later hq5
  replace Ox0 := Ox0.later hq5
  have ing0 : Within [.slice Ag0 (ooL xs).length cg0] (w4.heap.size) (w5.heap.size) := by
    intro v hv k hk
    simp only [List.mem_cons, List.not_mem_nil, or_false] at hv
    subst hv
    have h := Og0.lt k hk; (try simp at h); omega
  go_wp2_with fail
  refine (eqIntS_is Ag0 Aw0 cg0 cw0 (ooL xs) (ooL_len xs hxs') _ (Og0.rds.below (by repeat (first | exact Below.refl _ _ | refine Below.alloc ?_ (by first | exact Nat.le_refl _ | (simp <;> omega)) _ | refine Below.setCell ?_ (by first | exact Nat.le_refl _ | (simp <;> omega)) _))) (Ow0.rds.below (by repeat (first | exact Below.refl _ _ | refine Below.alloc ?_ (by first | exact Nat.le_refl _ | (simp <;> omega)) _ | refine Below.setCell ?_ (by first | exact Nat.le_refl _ | (simp <;> omega)) _)))).mono ?_
  rintro e w6 ⟨rfl, hb6⟩
  have hq6 : Below w5.heap.size w5 w6 := bth (by repeat (first | exact Below.refl _ _ | refine Below.alloc ?_ (by first | exact Nat.le_refl _ | (simp <;> omega)) _ | refine Below.setCell ?_ (by first | exact Nat.le_refl _ | (simp <;> omega)) _)) hb6
  have z6 := hq6.size
  replace HB := bth HB hq6
  replace Ow0 := Ow0.later hq6
  replace Ox0 := Ox0.later hq6
  replace Og0 := Og0.later hq6
  go_wp2_with fail
  refine (toMotionResultS_is Axs cxs xs hxs' _ (Rxs.below (bth HB (by repeat (first | exact Below.refl _ _ | refine Below.alloc ?_ (by first | exact Nat.le_refl _ | (simp <;> omega)) _ | refine Below.setCell ?_ (by first | exact Nat.le_refl _ | (simp <;> omega)) _))))).mono ?_
  rintro e w7 ⟨Ay0, rfl, Oy0, hb7⟩
  have hq7 : Below w6.heap.size w6 w7 := bth (by repeat (first | exact Below.refl _ _ | refine Below.alloc ?_ (by first | exact Nat.le_refl _ | (simp <;> omega)) _ | refine Below.setCell ?_ (by first | exact Nat.le_refl _ | (simp <;> omega)) _)) hb7
  have z7 := hq7.size
  replace HB := bth HB hq7
  replace Ow0 := Ow0.later hq7
  replace Ox0 := Ox0.later hq7
  replace Og0 := Og0.later hq7
  have iny0 : Within [.slice Ay0 xs.length xs.length] (w6.heap.size) (w7.heap.size) := by
    intro v hv k hk
    simp only [List.mem_cons, List.not_mem_nil, or_false] at hv
    subst hv
    have h := Oy0.lt k hk; (try simp at h); omega
  go_wp2_with fail
  refine (eqMotionResultS_is Ax0 Ay0 xs.length xs.length xs hxs' _ (Ox0.rds.below (by repeat (first | exact Below.refl _ _ | refine Below.alloc ?_ (by first | exact Nat.le_refl _ | (simp <;> omega)) _ | refine Below.setCell ?_ (by first | exact Nat.le_refl _ | (simp <;> omega)) _))) (Oy0.rds.below (by repeat (first | exact Below.refl _ _ | refine Below.alloc ?_ (by first | exact Nat.le_refl _ | (simp <;> omega)) _ | refine Below.setCell ?_ (by first | exact Nat.le_refl _ | (simp <;> omega)) _)))).mono ?_
  rintro e w8 ⟨rfl, hb8⟩
  have hq8 : Below w7.heap.size w7 w8 := bth (by repeat (first | exact Below.refl _ _ | refine Below.alloc ?_ (by first | exact Nat.le_refl _ | (simp <;> omega)) _ | refine Below.setCell ?_ (by first | exact Nat.le_refl _ | (simp <;> omega)) _)) hb8
  have z8 := hq8.size
  replace HB := bth HB hq8
  replace Ow0 := Ow0.later hq8
  replace Ox0 := Ox0.later hq8
  replace Og0 := Og0.later hq8
  replace Oy0 := Oy0.later hq8
  go_wp2_with fail
  refine (mkMotionResultS_is _ Ax0 xs.length xs hxs' (1) (by omega) (by omega) _ Ox0).mono ?_
  rintro e w9 ⟨rfl, M9_0, hg9⟩
  have HG9 := grownL_one hg9
  have z9 := HG9.size
  replace HB := HB.trans (HG9.below inx0 (by omega) HB.size)
  replace Ow0 := Ow0.keptL HG9 inw0 inx0 (by simp) (by omega)
  replace Og0 := Og0.keptL HG9 ing0 inx0 (by simp) (by omega)
  go_wp2_with fail
  refine (eqIntS_is Ag0 Aw0 cg0 cw0 (ooL xs) (ooL_len xs hxs') _ (Og0.rds.below (by repeat (first | exact Below.refl _ _ | refine Below.alloc ?_ (by first | exact Nat.le_refl _ | (simp <;> omega)) _ | refine Below.setCell ?_ (by first | exact Nat.le_refl _ | (simp <;> omega)) _))) (Ow0.rds.below (by repeat (first | exact Below.refl _ _ | refine Below.alloc ?_ (by first | exact Nat.le_refl _ | (simp <;> omega)) _ | refine Below.setCell ?_ (by first | exact Nat.le_refl _ | (simp <;> omega)) _)))).mono ?_
  rintro e w10 ⟨rfl, hb10⟩
  have hq10 : Below w9.heap.size w9 w10 := bth (by repeat (first | exact Below.refl _ _ | refine Below.alloc ?_ (by first | exact Nat.le_refl _ | (simp <;> omega)) _ | refine Below.setCell ?_ (by first | exact Nat.le_refl _ | (simp <;> omega)) _)) hb10
  have z10 := hq10.size
  replace HB := bth HB hq10
  replace Ow0 := Ow0.later hq10
  replace Og0 := Og0.later hq10
  go_wp2_with fail
  refine (mkIntS_is _ Ag0 cg0 (ooL xs) (ooL_len xs hxs') (1) (by omega) (by omega) _ Og0).mono ?_
  rintro e w11 ⟨rfl, M11_0, hg11⟩
  have HG11 := grownL_one hg11
  have z11 := HG11.size
  replace HB := HB.trans (HG11.below ing0 (by omega) HB.size)
  replace Ow0 := Ow0.keptL HG11 inw0 ing0 (by simp) (by omega)
  go_wp2_with fail
  refine (hdIntS_is Ag0 cg0 _ (ooL_len xs hxs') (1) (by omega) (by omega) _ (M11_0.rds.below (by repeat (first | exact Below.refl _ _ | refine Below.alloc ?_ (by first | exact Nat.le_refl _ | (simp <;> omega)) _ | refine Below.setCell ?_ (by first | exact Nat.le_refl _ | (simp <;> omega)) _)))).mono ?_
  rintro e w12 ⟨rfl, hb12⟩
  have hq12 : Below w11.heap.size w11 w12 := bth (by repeat (first | exact Below.refl _ _ | refine Below.alloc ?_ (by first | exact Nat.le_refl _ | (simp <;> omega)) _ | refine Below.setCell ?_ (by first | exact Nat.le_refl _ | (simp <;> omega)) _)) hb12
  have z12 := hq12.size
  replace HB := bth HB hq12
  replace Ow0 := Ow0.later hq12
  replace M11_0 := M11_0.later hq12
  go_wp2_with fail
  refine (toMotionResultS_is Axs cxs xs hxs' _ (Rxs.below (bth HB (by repeat (first | exact Below.refl _ _ | refine Below.alloc ?_ (by first | exact Nat.le_refl _ | (simp <;> omega)) _ | refine Below.setCell ?_ (by first | exact Nat.le_refl _ | (simp <;> omega)) _))))).mono ?_
  rintro e w13 ⟨At0, rfl, Ot0, hb13⟩
  have hq13 : Below w12.heap.size w12 w13 := bth (by repeat (first | exact Below.refl _ _ | refine Below.alloc ?_ (by first | exact Nat.le_refl _ | (simp <;> omega)) _ | refine Below.setCell ?_ (by first | exact Nat.le_refl _ | (simp <;> omega)) _)) hb13
  have z13 := hq13.size
  replace HB := bth HB hq13
  replace Ow0 := Ow0.later hq13
  replace M11_0 := M11_0.later hq13
  have int0 : Within [.slice At0 xs.length xs.length] (w12.heap.size) (w13.heap.size) := by
    intro v hv k hk
    simp only [List.mem_cons, List.not_mem_nil, or_false] at hv
    subst hv
    have h := Ot0.lt k hk; (try simp at h); omega
  go_wp2_with fail
  refine (iOrder_is At0 xs.length xs hxs' _ (Ot0.rds.below (by repeat (first | exact Below.refl _ _ | refine Below.alloc ?_ (by first | exact Nat.le_refl _ | (simp <;> omega)) _ | refine Below.setCell ?_ (by first | exact Nat.le_refl _ | (simp <;> omega)) _)))).mono ?_
  rintro e w14 ⟨Ah0, ch0, rfl, Oh0, hb14⟩
  have hq14 : Below w13.heap.size w13 w14 := bth (by repeat (first | exact Below.refl _ _ | refine Below.alloc ?_ (by first | exact Nat.le_refl _ | (simp <;> omega)) _ | refine Below.setCell ?_ (by first | exact Nat.le_refl _ | (simp <;> omega)) _)) hb14
  have z14 := hq14.size
  replace HB := bth HB hq14
  replace Ow0 := Ow0.later hq14
  replace M11_0 := M11_0.later hq14
  replace Ot0 := Ot0.later hq14
  have inh0 : Within [.slice Ah0 (ooL xs).length ch0] (w13.heap.size) (w14.heap.size) := by
    intro v hv k hk
    simp only [List.mem_cons, List.not_mem_nil, or_false] at hv
    subst hv
    have h := Oh0.lt k hk; (try simp at h); omega
  go_wp2_with fail
  refine (eqIntS_is Ah0 Aw0 ch0 cw0 (ooL xs) (ooL_len xs hxs') _ (Oh0.rds.below (by repeat (first | exact Below.refl _ _ | refine Below.alloc ?_ (by first | exact Nat.le_refl _ | (simp <;> omega)) _ | refine Below.setCell ?_ (by first | exact Nat.le_refl _ | (simp <;> omega)) _))) (Ow0.rds.below (by repeat (first | exact Below.refl _ _ | refine Below.alloc ?_ (by first | exact Nat.le_refl _ | (simp <;> omega)) _ | refine Below.setCell ?_ (by first | exact Nat.le_refl _ | (simp <;> omega)) _)))).mono ?_
  rintro e w15 ⟨rfl, hb15⟩
  have hq15 : Below w14.heap.size w14 w15 := bth (by repeat (first | exact Below.refl _ _ | refine Below.alloc ?_ (by first | exact Nat.le_refl _ | (simp <;> omega)) _ | refine Below.setCell ?_ (by first | exact Nat.le_refl _ | (simp <;> omega)) _)) hb15
  have z15 := hq15.size
  replace HB := bth HB hq15
  replace Ow0 := Ow0.later hq15
  replace M11_0 := M11_0.later hq15
  replace Oh0 := Oh0.later hq15
  go_wp2_with fail
  refine (hdIntS_is Ag0 cg0 _ (ooL_len xs hxs') (1) (by omega) (by omega) _ (M11_0.rds.below (by repeat (first | exact Below.refl _ _ | refine Below.alloc ?_ (by first | exact Nat.le_refl _ | (simp <;> omega)) _ | refine Below.setCell ?_ (by first | exact Nat.le_refl _ | (simp <;> omega)) _)))).mono ?_
  rintro e w16 ⟨rfl, hb16⟩
  have hq16 : Below w15.heap.size w15 w16 := bth (by repeat (first | exact Below.refl _ _ | refine Below.alloc ?_ (by first | exact Nat.le_refl _ | (simp <;> omega)) _ | refine Below.setCell ?_ (by first | exact Nat.le_refl _ | (simp <;> omega)) _)) hb16
  have z16 := hq16.size
  replace HB := bth HB hq16
  replace Ow0 := Ow0.later hq16
  replace M11_0 := M11_0.later hq16
  replace Oh0 := Oh0.later hq16
  go_wp2
  go_ret
  exact ⟨rfl, bth HB (by repeat (first | exact Below.refl _ _ | refine Below.alloc ?_ (by first | exact Nat.le_refl _ | (simp <;> omega)) _ | refine Below.setCell ?_ (by first | exact Nat.le_refl _ | (simp <;> omega)) _))⟩
open Go.ChangeShapes Go.WideShapes Go.ChangeAt Go.Deep
set_option maxRecDepth 100000 in
theorem orderOutcomes_lifted (os : Os) (started : os.Started) (H : Type) (enc : TypeId × Value → H) :
    ReturnsInHanded {} Try.checked os 4 .any (Rows.fnExactOrderOutcomesSpec.pre6 enc Try.prog Try.f4 Rows.fnExactOrderOutcomesRow.domain false) (Rows.fnExactOrderOutcomesSpec.post enc Try.prog Try.f4 false true false false) := by
  refine law_lift (C := Try.checked) (rt := 4) prog_own started (by kernel_rfl) Try.func4
    (ChangeSpec.witness6 (enc := enc) (C := Try.checked) false ⟨#[], #[.slice none 0 0], []⟩ 8 (by kernel_rfl) (by kernel_rfl) (by kernel_rfl) (by kernel_rfl))
    prog_laid (by rw [Try.params4]; intro t ht; simp at ht; rcases ht with rfl; all_goals exact ⟨by kernel_rfl, of_decide_eq_true (by kernel_rfl)⟩) rfl Try.underlying4 rfl
    (by rw [Try.params4]; intro l hl; match l, hl with | [d0], _ => rfl) ?_
  intro W base args ds p hval hA
  rw [Try.params4] at hA hval
  obtain ⟨v0, d0, rfl, rfl, h0⟩ := trodAll_one hA
  obtain ⟨a_xs, len_xs, cap_xs, rfl⟩ := okWide_slice Try.underlying22 (hval 0 22 v0 rfl rfl)
  obtain ⟨fuel_xs, f_xs⟩ := h0
  obtain ⟨A_xs, c_xs, xs, e_xs, l_xs, R_xs⟩ := rd_slice Res.cells 5 (by decide) Try.underlying22 cells_Res (fun _ _ _ h => rd_Res h) f_xs
  simp [Value.cells] at e_xs
  obtain ⟨rfl, rfl, rfl⟩ := e_xs
  exact law_orderOutcomes _ _ xs l_xs W R_xs
theorem orderOutcomes_holds : Rows.FnExactOrderOutcomesSaid :=
  OpenClaim.holds_of_wide 4 Try.f4 rfl rfl rfl rfl rfl rfl rfl ⟨rfl, rfl, rfl, rfl, rfl⟩ rfl rfl rfl rfl rfl (by kernel_rfl) Try.func4 (by kernel_rfl)
    (of_decide_eq_true (by kernel_rfl)) (by unfold Func.isWrapper; rw [if_neg (of_decide_eq_false (by kernel_rfl))]; exact ⟨rfl, rfl⟩)
    (fun os started H enc _ => orderOutcomes_lifted os started H enc)
#print axioms orderOutcomes_holds
end Go.Proofs.Ytbnncgahepcfnaa
