/- Ordered outcomes: the comparison. -/
import Derived.Test.YtbnncgahepcfnaaDoorObn2
import Derived.Test.YtbnncgahepcfnaaDoorBlk
import Derived.BigRegion
import Derived.RegionTactic
import Derived.ChangeAlike
namespace Go.Proofs.YtbnncgahepcfnaaDoor
open Go.RowKit Go.G9
def ooCmp (x y : Res) : Int := if x.ado != y.ado then (if x.ado then -1 else 1) else (if y.yes < x.yes then -1 else if x.yes < y.yes then 1 else 0)
theorem isNaN_is (a : Int) (w : World) : Calls Tryd.prog 92 #[.int .i64 a] w fun e w' => e = .returned (.bool false) ∧ w' = w := by
  have h0 : (a != a) = false := by simp
  go_enter Tryd.func92, Tryd.ntmps92
  go_wp2
  go_ret
  exact ⟨by first | rfl | (refine ret_bool ?_; simp), rfl⟩
theorem cmpCompare_is (a b v : Int) (hv : (if a < b then -1 else if b < a then 1 else 0) = v) (w : World) : Calls Tryd.prog 60 #[.int .i64 a, .int .i64 b] w fun e w' => e = .returned (.int .i64 v) ∧ w' = w := by
  subst hv
  by_cases h1 : a < b
  · rw [if_pos h1]
    go_enter Tryd.func60, Tryd.ntmps60
    go_wp2_with fail
    refine (isNaN_is a _).mono ?_
    rintro e w0 ⟨rfl, h0⟩
    rw [h0]
    clear h0 w0
    go_wp2_with fail
    refine (isNaN_is b _).mono ?_
    rintro e w0 ⟨rfl, h0⟩
    rw [h0]
    clear h0 w0
    go_wp2
    go_ret
    exact ⟨rfl, rfl⟩
  · rw [if_neg h1]
    by_cases h2 : b < a
    · rw [if_pos h2]
      go_enter Tryd.func60, Tryd.ntmps60
      go_wp2_with fail
      refine (isNaN_is a _).mono ?_
      rintro e w0 ⟨rfl, h0⟩
      rw [h0]
      clear h0 w0
      go_wp2_with fail
      refine (isNaN_is b _).mono ?_
      rintro e w0 ⟨rfl, h0⟩
      rw [h0]
      clear h0 w0
      go_wp2
      go_ret
      exact ⟨rfl, rfl⟩
    · rw [if_neg h2]
      go_enter Tryd.func60, Tryd.ntmps60
      go_wp2_with fail
      refine (isNaN_is a _).mono ?_
      rintro e w0 ⟨rfl, h0⟩
      rw [h0]
      clear h0 w0
      go_wp2_with fail
      refine (isNaN_is b _).mono ?_
      rintro e w0 ⟨rfl, h0⟩
      rw [h0]
      clear h0 w0
      go_wp2
      go_ret
      exact ⟨rfl, rfl⟩
set_option maxHeartbeats 4000000 in
set_option maxRecDepth 100000 in
theorem ooCmpF_is (b0 : Nat) (A : Option Addr) (c : Nat) (xs : List Res) (hn : xs.length ≤ 1048576) (i k : Nat) (x y : Res) (hx : xs[i]? = some x) (hy : xs[k]? = some y)
    (hxb : 0 ≤ x.yes ∧ x.yes ≤ 1000 ∧ 0 ≤ x.no ∧ x.no ≤ 1000) (hyb : 0 ≤ y.yes ∧ y.yes ≤ 1000 ∧ 0 ≤ y.no ∧ y.no ≤ 1000) (v : Int) (hv : ooCmp x y = v) (w : World)
    (hB0 : b0 < w.heap.size) (hB : w.cell? ⟨b0, 0, none⟩ = some (.slice A xs.length c)) (hR : Rds 5 Res.cells w A xs) :
  Calls Tryd.prog 59 #[.int .i64 i, .int .i64 k, .pointer (some ⟨b0, 0, none⟩)] w fun e w' => e = .returned (.int .i64 v) ∧ Below w.heap.size w w' := by
  have hi : i < xs.length := (List.getElem?_eq_some_iff.1 hx).1
  have hk : k < xs.length := (List.getElem?_eq_some_iff.1 hy).1
  obtain ⟨b, off, x', rfl, hbl, hx', hcx⟩ := hR.at_ (Below.refl _ _) hi
  obtain ⟨b', off', y', hae, _, hy', hcy⟩ := hR.at_ (Below.refl _ _) hk
  obtain ⟨rfl, rfl⟩ : b = b' ∧ off = off' := by injection hae with hae; injection hae with h1 h2; exact ⟨h1, h2⟩
  obtain rfl := Option.some.inj (hx'.symm.trans hx)
  obtain rfl := Option.some.inj (hy'.symm.trans hy)
  obtain ⟨m, nd, yy, no, ab, hs⟩ := x'
  obtain ⟨m2, nd2, yy2, no2, ab2, hs2⟩ := y'
  have f0 := hcx 0 _ rfl (Kin.self _)
  have f1 := hcx 1 _ rfl (Kin.self _)
  have f2 := hcx 2 _ rfl (Kin.self _)
  have f3 := hcx 3 _ rfl (Kin.self _)
  have f4 := hcx 4 _ rfl (Kin.self _)
  have g0 := hcy 0 _ rfl (Kin.self _)
  have g1 := hcy 1 _ rfl (Kin.self _)
  have g2 := hcy 2 _ rfl (Kin.self _)
  have g3 := hcy 3 _ rfl (Kin.self _)
  have g4 := hcy 4 _ rfl (Kin.self _)
  simp only [Nat.add_zero, Kin.self] at f0 f1 f2 f3 f4 g0 g1 g2 g3 g4
  have HR := Lib.hid hR; clear hR hcx hcy hx hy hx' hy' hae
  go_enter Tryd.func59, Tryd.ntmps59
  go_upto_region 1 with fail
  go_region
  · have hX : Blk (World.drew (World.alloc (World.alloc w (Obj.cells #[.string m, .int .i64 nd, .int .i64 yy, .int .i64 no, .int .i64 ab] 31)) (Obj.cells #[.string m2, .int .i64 nd2, .int .i64 yy2, .int .i64 no2, .int .i64 ab2] 31))) w.heap.size 31 #[.string m, .int .i64 nd, .int .i64 yy, .int .i64 no, .int .i64 ab] := (Blk.new w _ _).alloc _
    have hY : Blk (World.drew (World.alloc (World.alloc w (Obj.cells #[.string m, .int .i64 nd, .int .i64 yy, .int .i64 no, .int .i64 ab] 31)) (Obj.cells #[.string m2, .int .i64 nd2, .int .i64 yy2, .int .i64 no2, .int .i64 ab2] 31))) (w.heap.size + 1) 31 #[.string m2, .int .i64 nd2, .int .i64 yy2, .int .i64 no2, .int .i64 ab2] := Blk.new2 w _ _ _
    have HBW : Below w.heap.size w (World.drew (World.alloc (World.alloc w (Obj.cells #[.string m, .int .i64 nd, .int .i64 yy, .int .i64 no, .int .i64 ab] 31)) (Obj.cells #[.string m2, .int .i64 nd2, .int .i64 yy2, .int .i64 no2, .int .i64 ab2] 31))) := (bl2 w _ _).drew
    clear f0 f1 f2 f3 f4 g0 g1 g2 g3 g4 hB
    generalize World.drew (World.alloc (World.alloc w (Obj.cells #[.string m, .int .i64 nd, .int .i64 yy, .int .i64 no, .int .i64 ab] 31)) (Obj.cells #[.string m2, .int .i64 nd2, .int .i64 yy2, .int .i64 no2, .int .i64 ab2] 31)) = WA at *
    cases ha : adoB nd yy no <;> cases hb : adoB nd2 yy2 no2
    · have x0 := fun K : Kin WA.heap.size WA => ((hX.below K.below hX.lt).cell 0).trans (show _ = some (.string m) from rfl)
      have x1 := fun K : Kin WA.heap.size WA => ((hX.below K.below hX.lt).cell 1).trans (show _ = some (.int .i64 nd) from rfl)
      have x2 := fun K : Kin WA.heap.size WA => ((hX.below K.below hX.lt).cell 2).trans (show _ = some (.int .i64 yy) from rfl)
      have x3 := fun K : Kin WA.heap.size WA => ((hX.below K.below hX.lt).cell 3).trans (show _ = some (.int .i64 no) from rfl)
      have x4 := fun K : Kin WA.heap.size WA => ((hX.below K.below hX.lt).cell 4).trans (show _ = some (.int .i64 ab) from rfl)
      have y0 := fun K : Kin WA.heap.size WA => ((hY.below K.below hY.lt).cell 0).trans (show _ = some (.string m2) from rfl)
      have y1 := fun K : Kin WA.heap.size WA => ((hY.below K.below hY.lt).cell 1).trans (show _ = some (.int .i64 nd2) from rfl)
      have y2 := fun K : Kin WA.heap.size WA => ((hY.below K.below hY.lt).cell 2).trans (show _ = some (.int .i64 yy2) from rfl)
      have y3 := fun K : Kin WA.heap.size WA => ((hY.below K.below hY.lt).cell 3).trans (show _ = some (.int .i64 no2) from rfl)
      have y4 := fun K : Kin WA.heap.size WA => ((hY.below K.below hY.lt).cell 4).trans (show _ = some (.int .i64 ab2) from rfl)
      have HA := Lib.hid ha; have HB2 := Lib.hid hb; have HV := Lib.hid hv; clear ha hb hv
      go_wp2
      refine wp_region_kin (by kernel_rfl) (by kernel_rfl) ?_
      go_big_quiet_step (fail)
      go_big_quiet_step ((go_at_call 54; exact Kin.call _ (by first | exact Nat.le_refl _ | omega) (adopted_is m nd yy no ab ⟨hxb.1, hxb.2.1, hxb.2.2.1, hxb.2.2.2⟩ _ HA.out _)))
      go_big_quiet_step (fail)
      go_big_quiet_step ((go_at_call 54; exact Kin.call _ (by first | exact Nat.le_refl _ | omega) (adopted_is m2 nd2 yy2 no2 ab2 ⟨hyb.1, hyb.2.1, hyb.2.2.1, hyb.2.2.2⟩ _ HB2.out _)))
      repeat (go_big_quiet_step (fail))
      refine wpQuiet_nil ?_
      intro K
      have hX2 := hX.below K.below hX.lt; have hY2 := hY.below K.below hY.lt; have HB3 := bth HBW K.below
      clear x0 y0 x1 y1 x2 y2 x3 y3 x4 y4
      generalize K.world = WB at *
      have x0 := (hX2.cell 0).trans (show _ = some (.string m) from rfl)
      have x1 := (hX2.cell 1).trans (show _ = some (.int .i64 nd) from rfl)
      have x2 := (hX2.cell 2).trans (show _ = some (.int .i64 yy) from rfl)
      have x3 := (hX2.cell 3).trans (show _ = some (.int .i64 no) from rfl)
      have x4 := (hX2.cell 4).trans (show _ = some (.int .i64 ab) from rfl)
      have y0 := (hY2.cell 0).trans (show _ = some (.string m2) from rfl)
      have y1 := (hY2.cell 1).trans (show _ = some (.int .i64 nd2) from rfl)
      have y2 := (hY2.cell 2).trans (show _ = some (.int .i64 yy2) from rfl)
      have y3 := (hY2.cell 3).trans (show _ = some (.int .i64 no2) from rfl)
      have y4 := (hY2.cell 4).trans (show _ = some (.int .i64 ab2) from rfl)
      have HC : Hid ((if yy2 < yy then -1 else if yy < yy2 then 1 else 0) = v) := Lib.hid (by rw [← HV.out]; simp [ooCmp, Res.ado, HA.out, HB2.out])
      go_wp2_with fail
      refine (cmpCompare_is yy2 yy v HC.out _).mono ?_
      rintro e w5 ⟨rfl, h5⟩
      rw [h5]
      clear h5 w5
      go_wp2
      go_ret
      exact ⟨rfl, HB3⟩
    · have x0 := fun K : Kin WA.heap.size WA => ((hX.below K.below hX.lt).cell 0).trans (show _ = some (.string m) from rfl)
      have x1 := fun K : Kin WA.heap.size WA => ((hX.below K.below hX.lt).cell 1).trans (show _ = some (.int .i64 nd) from rfl)
      have x2 := fun K : Kin WA.heap.size WA => ((hX.below K.below hX.lt).cell 2).trans (show _ = some (.int .i64 yy) from rfl)
      have x3 := fun K : Kin WA.heap.size WA => ((hX.below K.below hX.lt).cell 3).trans (show _ = some (.int .i64 no) from rfl)
      have x4 := fun K : Kin WA.heap.size WA => ((hX.below K.below hX.lt).cell 4).trans (show _ = some (.int .i64 ab) from rfl)
      have y0 := fun K : Kin WA.heap.size WA => ((hY.below K.below hY.lt).cell 0).trans (show _ = some (.string m2) from rfl)
      have y1 := fun K : Kin WA.heap.size WA => ((hY.below K.below hY.lt).cell 1).trans (show _ = some (.int .i64 nd2) from rfl)
      have y2 := fun K : Kin WA.heap.size WA => ((hY.below K.below hY.lt).cell 2).trans (show _ = some (.int .i64 yy2) from rfl)
      have y3 := fun K : Kin WA.heap.size WA => ((hY.below K.below hY.lt).cell 3).trans (show _ = some (.int .i64 no2) from rfl)
      have y4 := fun K : Kin WA.heap.size WA => ((hY.below K.below hY.lt).cell 4).trans (show _ = some (.int .i64 ab2) from rfl)
      have HA := Lib.hid ha; have HB2 := Lib.hid hb; have HV := Lib.hid hv; clear ha hb hv
      go_wp2
      refine wp_region_kin (by kernel_rfl) (by kernel_rfl) ?_
      go_big_quiet_step (fail)
      go_big_quiet_step ((go_at_call 54; exact Kin.call _ (by first | exact Nat.le_refl _ | omega) (adopted_is m nd yy no ab ⟨hxb.1, hxb.2.1, hxb.2.2.1, hxb.2.2.2⟩ _ HA.out _)))
      go_big_quiet_step (fail)
      go_big_quiet_step ((go_at_call 54; exact Kin.call _ (by first | exact Nat.le_refl _ | omega) (adopted_is m2 nd2 yy2 no2 ab2 ⟨hyb.1, hyb.2.1, hyb.2.2.1, hyb.2.2.2⟩ _ HB2.out _)))
      repeat (go_big_quiet_step (fail))
      refine wpQuiet_nil ?_
      intro K
      have hX2 := hX.below K.below hX.lt; have hY2 := hY.below K.below hY.lt; have HB3 := bth HBW K.below
      clear x0 y0 x1 y1 x2 y2 x3 y3 x4 y4
      generalize K.world = WB at *
      have x0 := (hX2.cell 0).trans (show _ = some (.string m) from rfl)
      have x1 := (hX2.cell 1).trans (show _ = some (.int .i64 nd) from rfl)
      have x2 := (hX2.cell 2).trans (show _ = some (.int .i64 yy) from rfl)
      have x3 := (hX2.cell 3).trans (show _ = some (.int .i64 no) from rfl)
      have x4 := (hX2.cell 4).trans (show _ = some (.int .i64 ab) from rfl)
      have y0 := (hY2.cell 0).trans (show _ = some (.string m2) from rfl)
      have y1 := (hY2.cell 1).trans (show _ = some (.int .i64 nd2) from rfl)
      have y2 := (hY2.cell 2).trans (show _ = some (.int .i64 yy2) from rfl)
      have y3 := (hY2.cell 3).trans (show _ = some (.int .i64 no2) from rfl)
      have y4 := (hY2.cell 4).trans (show _ = some (.int .i64 ab2) from rfl)
      go_wp2_with fail
      refine (adopted_is m nd yy no ab ⟨hxb.1, hxb.2.1, hxb.2.2.1, hxb.2.2.2⟩ _ HA.out _).mono ?_
      rintro e w5 ⟨rfl, hb5⟩
      go_wp2
      go_ret
      exact ⟨by rw [← HV.out]; simp [ooCmp, Res.ado, HA.out, HB2.out], bth HB3 hb5⟩
    · have x0 := fun K : Kin WA.heap.size WA => ((hX.below K.below hX.lt).cell 0).trans (show _ = some (.string m) from rfl)
      have x1 := fun K : Kin WA.heap.size WA => ((hX.below K.below hX.lt).cell 1).trans (show _ = some (.int .i64 nd) from rfl)
      have x2 := fun K : Kin WA.heap.size WA => ((hX.below K.below hX.lt).cell 2).trans (show _ = some (.int .i64 yy) from rfl)
      have x3 := fun K : Kin WA.heap.size WA => ((hX.below K.below hX.lt).cell 3).trans (show _ = some (.int .i64 no) from rfl)
      have x4 := fun K : Kin WA.heap.size WA => ((hX.below K.below hX.lt).cell 4).trans (show _ = some (.int .i64 ab) from rfl)
      have y0 := fun K : Kin WA.heap.size WA => ((hY.below K.below hY.lt).cell 0).trans (show _ = some (.string m2) from rfl)
      have y1 := fun K : Kin WA.heap.size WA => ((hY.below K.below hY.lt).cell 1).trans (show _ = some (.int .i64 nd2) from rfl)
      have y2 := fun K : Kin WA.heap.size WA => ((hY.below K.below hY.lt).cell 2).trans (show _ = some (.int .i64 yy2) from rfl)
      have y3 := fun K : Kin WA.heap.size WA => ((hY.below K.below hY.lt).cell 3).trans (show _ = some (.int .i64 no2) from rfl)
      have y4 := fun K : Kin WA.heap.size WA => ((hY.below K.below hY.lt).cell 4).trans (show _ = some (.int .i64 ab2) from rfl)
      have HA := Lib.hid ha; have HB2 := Lib.hid hb; have HV := Lib.hid hv; clear ha hb hv
      go_wp2
      refine wp_region_kin (by kernel_rfl) (by kernel_rfl) ?_
      go_big_quiet_step (fail)
      go_big_quiet_step ((go_at_call 54; exact Kin.call _ (by first | exact Nat.le_refl _ | omega) (adopted_is m nd yy no ab ⟨hxb.1, hxb.2.1, hxb.2.2.1, hxb.2.2.2⟩ _ HA.out _)))
      go_big_quiet_step (fail)
      go_big_quiet_step ((go_at_call 54; exact Kin.call _ (by first | exact Nat.le_refl _ | omega) (adopted_is m2 nd2 yy2 no2 ab2 ⟨hyb.1, hyb.2.1, hyb.2.2.1, hyb.2.2.2⟩ _ HB2.out _)))
      repeat (go_big_quiet_step (fail))
      refine wpQuiet_nil ?_
      intro K
      have hX2 := hX.below K.below hX.lt; have hY2 := hY.below K.below hY.lt; have HB3 := bth HBW K.below
      clear x0 y0 x1 y1 x2 y2 x3 y3 x4 y4
      generalize K.world = WB at *
      have x0 := (hX2.cell 0).trans (show _ = some (.string m) from rfl)
      have x1 := (hX2.cell 1).trans (show _ = some (.int .i64 nd) from rfl)
      have x2 := (hX2.cell 2).trans (show _ = some (.int .i64 yy) from rfl)
      have x3 := (hX2.cell 3).trans (show _ = some (.int .i64 no) from rfl)
      have x4 := (hX2.cell 4).trans (show _ = some (.int .i64 ab) from rfl)
      have y0 := (hY2.cell 0).trans (show _ = some (.string m2) from rfl)
      have y1 := (hY2.cell 1).trans (show _ = some (.int .i64 nd2) from rfl)
      have y2 := (hY2.cell 2).trans (show _ = some (.int .i64 yy2) from rfl)
      have y3 := (hY2.cell 3).trans (show _ = some (.int .i64 no2) from rfl)
      have y4 := (hY2.cell 4).trans (show _ = some (.int .i64 ab2) from rfl)
      go_wp2_with fail
      refine (adopted_is m nd yy no ab ⟨hxb.1, hxb.2.1, hxb.2.2.1, hxb.2.2.2⟩ _ HA.out _).mono ?_
      rintro e w5 ⟨rfl, hb5⟩
      go_wp2
      go_ret
      exact ⟨by rw [← HV.out]; simp [ooCmp, Res.ado, HA.out, HB2.out], bth HB3 hb5⟩
    · have x0 := fun K : Kin WA.heap.size WA => ((hX.below K.below hX.lt).cell 0).trans (show _ = some (.string m) from rfl)
      have x1 := fun K : Kin WA.heap.size WA => ((hX.below K.below hX.lt).cell 1).trans (show _ = some (.int .i64 nd) from rfl)
      have x2 := fun K : Kin WA.heap.size WA => ((hX.below K.below hX.lt).cell 2).trans (show _ = some (.int .i64 yy) from rfl)
      have x3 := fun K : Kin WA.heap.size WA => ((hX.below K.below hX.lt).cell 3).trans (show _ = some (.int .i64 no) from rfl)
      have x4 := fun K : Kin WA.heap.size WA => ((hX.below K.below hX.lt).cell 4).trans (show _ = some (.int .i64 ab) from rfl)
      have y0 := fun K : Kin WA.heap.size WA => ((hY.below K.below hY.lt).cell 0).trans (show _ = some (.string m2) from rfl)
      have y1 := fun K : Kin WA.heap.size WA => ((hY.below K.below hY.lt).cell 1).trans (show _ = some (.int .i64 nd2) from rfl)
      have y2 := fun K : Kin WA.heap.size WA => ((hY.below K.below hY.lt).cell 2).trans (show _ = some (.int .i64 yy2) from rfl)
      have y3 := fun K : Kin WA.heap.size WA => ((hY.below K.below hY.lt).cell 3).trans (show _ = some (.int .i64 no2) from rfl)
      have y4 := fun K : Kin WA.heap.size WA => ((hY.below K.below hY.lt).cell 4).trans (show _ = some (.int .i64 ab2) from rfl)
      have HA := Lib.hid ha; have HB2 := Lib.hid hb; have HV := Lib.hid hv; clear ha hb hv
      go_wp2
      refine wp_region_kin (by kernel_rfl) (by kernel_rfl) ?_
      go_big_quiet_step (fail)
      go_big_quiet_step ((go_at_call 54; exact Kin.call _ (by first | exact Nat.le_refl _ | omega) (adopted_is m nd yy no ab ⟨hxb.1, hxb.2.1, hxb.2.2.1, hxb.2.2.2⟩ _ HA.out _)))
      go_big_quiet_step (fail)
      go_big_quiet_step ((go_at_call 54; exact Kin.call _ (by first | exact Nat.le_refl _ | omega) (adopted_is m2 nd2 yy2 no2 ab2 ⟨hyb.1, hyb.2.1, hyb.2.2.1, hyb.2.2.2⟩ _ HB2.out _)))
      repeat (go_big_quiet_step (fail))
      refine wpQuiet_nil ?_
      intro K
      have hX2 := hX.below K.below hX.lt; have hY2 := hY.below K.below hY.lt; have HB3 := bth HBW K.below
      clear x0 y0 x1 y1 x2 y2 x3 y3 x4 y4
      generalize K.world = WB at *
      have x0 := (hX2.cell 0).trans (show _ = some (.string m) from rfl)
      have x1 := (hX2.cell 1).trans (show _ = some (.int .i64 nd) from rfl)
      have x2 := (hX2.cell 2).trans (show _ = some (.int .i64 yy) from rfl)
      have x3 := (hX2.cell 3).trans (show _ = some (.int .i64 no) from rfl)
      have x4 := (hX2.cell 4).trans (show _ = some (.int .i64 ab) from rfl)
      have y0 := (hY2.cell 0).trans (show _ = some (.string m2) from rfl)
      have y1 := (hY2.cell 1).trans (show _ = some (.int .i64 nd2) from rfl)
      have y2 := (hY2.cell 2).trans (show _ = some (.int .i64 yy2) from rfl)
      have y3 := (hY2.cell 3).trans (show _ = some (.int .i64 no2) from rfl)
      have y4 := (hY2.cell 4).trans (show _ = some (.int .i64 ab2) from rfl)
      have HC : Hid ((if yy2 < yy then -1 else if yy < yy2 then 1 else 0) = v) := Lib.hid (by rw [← HV.out]; simp [ooCmp, Res.ado, HA.out, HB2.out])
      go_wp2_with fail
      refine (cmpCompare_is yy2 yy v HC.out _).mono ?_
      rintro e w5 ⟨rfl, h5⟩
      rw [h5]
      clear h5 w5
      go_wp2
      go_ret
      exact ⟨rfl, HB3⟩
  · have hY : Blk (World.drew (World.alloc (World.alloc w (Obj.cells #[.string m2, .int .i64 nd2, .int .i64 yy2, .int .i64 no2, .int .i64 ab2] 31)) (Obj.cells #[.string m, .int .i64 nd, .int .i64 yy, .int .i64 no, .int .i64 ab] 31))) w.heap.size 31 #[.string m2, .int .i64 nd2, .int .i64 yy2, .int .i64 no2, .int .i64 ab2] := (Blk.new w _ _).alloc _
    have hX : Blk (World.drew (World.alloc (World.alloc w (Obj.cells #[.string m2, .int .i64 nd2, .int .i64 yy2, .int .i64 no2, .int .i64 ab2] 31)) (Obj.cells #[.string m, .int .i64 nd, .int .i64 yy, .int .i64 no, .int .i64 ab] 31))) (w.heap.size + 1) 31 #[.string m, .int .i64 nd, .int .i64 yy, .int .i64 no, .int .i64 ab] := Blk.new2 w _ _ _
    have HBW : Below w.heap.size w (World.drew (World.alloc (World.alloc w (Obj.cells #[.string m2, .int .i64 nd2, .int .i64 yy2, .int .i64 no2, .int .i64 ab2] 31)) (Obj.cells #[.string m, .int .i64 nd, .int .i64 yy, .int .i64 no, .int .i64 ab] 31))) := (bl2 w _ _).drew
    clear f0 f1 f2 f3 f4 g0 g1 g2 g3 g4 hB
    generalize World.drew (World.alloc (World.alloc w (Obj.cells #[.string m2, .int .i64 nd2, .int .i64 yy2, .int .i64 no2, .int .i64 ab2] 31)) (Obj.cells #[.string m, .int .i64 nd, .int .i64 yy, .int .i64 no, .int .i64 ab] 31)) = WA at *
    cases ha : adoB nd yy no <;> cases hb : adoB nd2 yy2 no2
    · have x0 := fun K : Kin WA.heap.size WA => ((hX.below K.below hX.lt).cell 0).trans (show _ = some (.string m) from rfl)
      have x1 := fun K : Kin WA.heap.size WA => ((hX.below K.below hX.lt).cell 1).trans (show _ = some (.int .i64 nd) from rfl)
      have x2 := fun K : Kin WA.heap.size WA => ((hX.below K.below hX.lt).cell 2).trans (show _ = some (.int .i64 yy) from rfl)
      have x3 := fun K : Kin WA.heap.size WA => ((hX.below K.below hX.lt).cell 3).trans (show _ = some (.int .i64 no) from rfl)
      have x4 := fun K : Kin WA.heap.size WA => ((hX.below K.below hX.lt).cell 4).trans (show _ = some (.int .i64 ab) from rfl)
      have y0 := fun K : Kin WA.heap.size WA => ((hY.below K.below hY.lt).cell 0).trans (show _ = some (.string m2) from rfl)
      have y1 := fun K : Kin WA.heap.size WA => ((hY.below K.below hY.lt).cell 1).trans (show _ = some (.int .i64 nd2) from rfl)
      have y2 := fun K : Kin WA.heap.size WA => ((hY.below K.below hY.lt).cell 2).trans (show _ = some (.int .i64 yy2) from rfl)
      have y3 := fun K : Kin WA.heap.size WA => ((hY.below K.below hY.lt).cell 3).trans (show _ = some (.int .i64 no2) from rfl)
      have y4 := fun K : Kin WA.heap.size WA => ((hY.below K.below hY.lt).cell 4).trans (show _ = some (.int .i64 ab2) from rfl)
      have HA := Lib.hid ha; have HB2 := Lib.hid hb; have HV := Lib.hid hv; clear ha hb hv
      go_wp2
      refine wp_region_kin (by kernel_rfl) (by kernel_rfl) ?_
      go_big_quiet_step (fail)
      go_big_quiet_step ((go_at_call 54; exact Kin.call _ (by first | exact Nat.le_refl _ | omega) (adopted_is m nd yy no ab ⟨hxb.1, hxb.2.1, hxb.2.2.1, hxb.2.2.2⟩ _ HA.out _)))
      go_big_quiet_step (fail)
      go_big_quiet_step ((go_at_call 54; exact Kin.call _ (by first | exact Nat.le_refl _ | omega) (adopted_is m2 nd2 yy2 no2 ab2 ⟨hyb.1, hyb.2.1, hyb.2.2.1, hyb.2.2.2⟩ _ HB2.out _)))
      repeat (go_big_quiet_step (fail))
      refine wpQuiet_nil ?_
      intro K
      have hX2 := hX.below K.below hX.lt; have hY2 := hY.below K.below hY.lt; have HB3 := bth HBW K.below
      clear x0 y0 x1 y1 x2 y2 x3 y3 x4 y4
      generalize K.world = WB at *
      have x0 := (hX2.cell 0).trans (show _ = some (.string m) from rfl)
      have x1 := (hX2.cell 1).trans (show _ = some (.int .i64 nd) from rfl)
      have x2 := (hX2.cell 2).trans (show _ = some (.int .i64 yy) from rfl)
      have x3 := (hX2.cell 3).trans (show _ = some (.int .i64 no) from rfl)
      have x4 := (hX2.cell 4).trans (show _ = some (.int .i64 ab) from rfl)
      have y0 := (hY2.cell 0).trans (show _ = some (.string m2) from rfl)
      have y1 := (hY2.cell 1).trans (show _ = some (.int .i64 nd2) from rfl)
      have y2 := (hY2.cell 2).trans (show _ = some (.int .i64 yy2) from rfl)
      have y3 := (hY2.cell 3).trans (show _ = some (.int .i64 no2) from rfl)
      have y4 := (hY2.cell 4).trans (show _ = some (.int .i64 ab2) from rfl)
      have HC : Hid ((if yy2 < yy then -1 else if yy < yy2 then 1 else 0) = v) := Lib.hid (by rw [← HV.out]; simp [ooCmp, Res.ado, HA.out, HB2.out])
      go_wp2_with fail
      refine (cmpCompare_is yy2 yy v HC.out _).mono ?_
      rintro e w5 ⟨rfl, h5⟩
      rw [h5]
      clear h5 w5
      go_wp2
      go_ret
      exact ⟨rfl, HB3⟩
    · have x0 := fun K : Kin WA.heap.size WA => ((hX.below K.below hX.lt).cell 0).trans (show _ = some (.string m) from rfl)
      have x1 := fun K : Kin WA.heap.size WA => ((hX.below K.below hX.lt).cell 1).trans (show _ = some (.int .i64 nd) from rfl)
      have x2 := fun K : Kin WA.heap.size WA => ((hX.below K.below hX.lt).cell 2).trans (show _ = some (.int .i64 yy) from rfl)
      have x3 := fun K : Kin WA.heap.size WA => ((hX.below K.below hX.lt).cell 3).trans (show _ = some (.int .i64 no) from rfl)
      have x4 := fun K : Kin WA.heap.size WA => ((hX.below K.below hX.lt).cell 4).trans (show _ = some (.int .i64 ab) from rfl)
      have y0 := fun K : Kin WA.heap.size WA => ((hY.below K.below hY.lt).cell 0).trans (show _ = some (.string m2) from rfl)
      have y1 := fun K : Kin WA.heap.size WA => ((hY.below K.below hY.lt).cell 1).trans (show _ = some (.int .i64 nd2) from rfl)
      have y2 := fun K : Kin WA.heap.size WA => ((hY.below K.below hY.lt).cell 2).trans (show _ = some (.int .i64 yy2) from rfl)
      have y3 := fun K : Kin WA.heap.size WA => ((hY.below K.below hY.lt).cell 3).trans (show _ = some (.int .i64 no2) from rfl)
      have y4 := fun K : Kin WA.heap.size WA => ((hY.below K.below hY.lt).cell 4).trans (show _ = some (.int .i64 ab2) from rfl)
      have HA := Lib.hid ha; have HB2 := Lib.hid hb; have HV := Lib.hid hv; clear ha hb hv
      go_wp2
      refine wp_region_kin (by kernel_rfl) (by kernel_rfl) ?_
      go_big_quiet_step (fail)
      go_big_quiet_step ((go_at_call 54; exact Kin.call _ (by first | exact Nat.le_refl _ | omega) (adopted_is m nd yy no ab ⟨hxb.1, hxb.2.1, hxb.2.2.1, hxb.2.2.2⟩ _ HA.out _)))
      go_big_quiet_step (fail)
      go_big_quiet_step ((go_at_call 54; exact Kin.call _ (by first | exact Nat.le_refl _ | omega) (adopted_is m2 nd2 yy2 no2 ab2 ⟨hyb.1, hyb.2.1, hyb.2.2.1, hyb.2.2.2⟩ _ HB2.out _)))
      repeat (go_big_quiet_step (fail))
      refine wpQuiet_nil ?_
      intro K
      have hX2 := hX.below K.below hX.lt; have hY2 := hY.below K.below hY.lt; have HB3 := bth HBW K.below
      clear x0 y0 x1 y1 x2 y2 x3 y3 x4 y4
      generalize K.world = WB at *
      have x0 := (hX2.cell 0).trans (show _ = some (.string m) from rfl)
      have x1 := (hX2.cell 1).trans (show _ = some (.int .i64 nd) from rfl)
      have x2 := (hX2.cell 2).trans (show _ = some (.int .i64 yy) from rfl)
      have x3 := (hX2.cell 3).trans (show _ = some (.int .i64 no) from rfl)
      have x4 := (hX2.cell 4).trans (show _ = some (.int .i64 ab) from rfl)
      have y0 := (hY2.cell 0).trans (show _ = some (.string m2) from rfl)
      have y1 := (hY2.cell 1).trans (show _ = some (.int .i64 nd2) from rfl)
      have y2 := (hY2.cell 2).trans (show _ = some (.int .i64 yy2) from rfl)
      have y3 := (hY2.cell 3).trans (show _ = some (.int .i64 no2) from rfl)
      have y4 := (hY2.cell 4).trans (show _ = some (.int .i64 ab2) from rfl)
      go_wp2_with fail
      refine (adopted_is m nd yy no ab ⟨hxb.1, hxb.2.1, hxb.2.2.1, hxb.2.2.2⟩ _ HA.out _).mono ?_
      rintro e w5 ⟨rfl, hb5⟩
      go_wp2
      go_ret
      exact ⟨by rw [← HV.out]; simp [ooCmp, Res.ado, HA.out, HB2.out], bth HB3 hb5⟩
    · have x0 := fun K : Kin WA.heap.size WA => ((hX.below K.below hX.lt).cell 0).trans (show _ = some (.string m) from rfl)
      have x1 := fun K : Kin WA.heap.size WA => ((hX.below K.below hX.lt).cell 1).trans (show _ = some (.int .i64 nd) from rfl)
      have x2 := fun K : Kin WA.heap.size WA => ((hX.below K.below hX.lt).cell 2).trans (show _ = some (.int .i64 yy) from rfl)
      have x3 := fun K : Kin WA.heap.size WA => ((hX.below K.below hX.lt).cell 3).trans (show _ = some (.int .i64 no) from rfl)
      have x4 := fun K : Kin WA.heap.size WA => ((hX.below K.below hX.lt).cell 4).trans (show _ = some (.int .i64 ab) from rfl)
      have y0 := fun K : Kin WA.heap.size WA => ((hY.below K.below hY.lt).cell 0).trans (show _ = some (.string m2) from rfl)
      have y1 := fun K : Kin WA.heap.size WA => ((hY.below K.below hY.lt).cell 1).trans (show _ = some (.int .i64 nd2) from rfl)
      have y2 := fun K : Kin WA.heap.size WA => ((hY.below K.below hY.lt).cell 2).trans (show _ = some (.int .i64 yy2) from rfl)
      have y3 := fun K : Kin WA.heap.size WA => ((hY.below K.below hY.lt).cell 3).trans (show _ = some (.int .i64 no2) from rfl)
      have y4 := fun K : Kin WA.heap.size WA => ((hY.below K.below hY.lt).cell 4).trans (show _ = some (.int .i64 ab2) from rfl)
      have HA := Lib.hid ha; have HB2 := Lib.hid hb; have HV := Lib.hid hv; clear ha hb hv
      go_wp2
      refine wp_region_kin (by kernel_rfl) (by kernel_rfl) ?_
      go_big_quiet_step (fail)
      go_big_quiet_step ((go_at_call 54; exact Kin.call _ (by first | exact Nat.le_refl _ | omega) (adopted_is m nd yy no ab ⟨hxb.1, hxb.2.1, hxb.2.2.1, hxb.2.2.2⟩ _ HA.out _)))
      go_big_quiet_step (fail)
      go_big_quiet_step ((go_at_call 54; exact Kin.call _ (by first | exact Nat.le_refl _ | omega) (adopted_is m2 nd2 yy2 no2 ab2 ⟨hyb.1, hyb.2.1, hyb.2.2.1, hyb.2.2.2⟩ _ HB2.out _)))
      repeat (go_big_quiet_step (fail))
      refine wpQuiet_nil ?_
      intro K
      have hX2 := hX.below K.below hX.lt; have hY2 := hY.below K.below hY.lt; have HB3 := bth HBW K.below
      clear x0 y0 x1 y1 x2 y2 x3 y3 x4 y4
      generalize K.world = WB at *
      have x0 := (hX2.cell 0).trans (show _ = some (.string m) from rfl)
      have x1 := (hX2.cell 1).trans (show _ = some (.int .i64 nd) from rfl)
      have x2 := (hX2.cell 2).trans (show _ = some (.int .i64 yy) from rfl)
      have x3 := (hX2.cell 3).trans (show _ = some (.int .i64 no) from rfl)
      have x4 := (hX2.cell 4).trans (show _ = some (.int .i64 ab) from rfl)
      have y0 := (hY2.cell 0).trans (show _ = some (.string m2) from rfl)
      have y1 := (hY2.cell 1).trans (show _ = some (.int .i64 nd2) from rfl)
      have y2 := (hY2.cell 2).trans (show _ = some (.int .i64 yy2) from rfl)
      have y3 := (hY2.cell 3).trans (show _ = some (.int .i64 no2) from rfl)
      have y4 := (hY2.cell 4).trans (show _ = some (.int .i64 ab2) from rfl)
      go_wp2_with fail
      refine (adopted_is m nd yy no ab ⟨hxb.1, hxb.2.1, hxb.2.2.1, hxb.2.2.2⟩ _ HA.out _).mono ?_
      rintro e w5 ⟨rfl, hb5⟩
      go_wp2
      go_ret
      exact ⟨by rw [← HV.out]; simp [ooCmp, Res.ado, HA.out, HB2.out], bth HB3 hb5⟩
    · have x0 := fun K : Kin WA.heap.size WA => ((hX.below K.below hX.lt).cell 0).trans (show _ = some (.string m) from rfl)
      have x1 := fun K : Kin WA.heap.size WA => ((hX.below K.below hX.lt).cell 1).trans (show _ = some (.int .i64 nd) from rfl)
      have x2 := fun K : Kin WA.heap.size WA => ((hX.below K.below hX.lt).cell 2).trans (show _ = some (.int .i64 yy) from rfl)
      have x3 := fun K : Kin WA.heap.size WA => ((hX.below K.below hX.lt).cell 3).trans (show _ = some (.int .i64 no) from rfl)
      have x4 := fun K : Kin WA.heap.size WA => ((hX.below K.below hX.lt).cell 4).trans (show _ = some (.int .i64 ab) from rfl)
      have y0 := fun K : Kin WA.heap.size WA => ((hY.below K.below hY.lt).cell 0).trans (show _ = some (.string m2) from rfl)
      have y1 := fun K : Kin WA.heap.size WA => ((hY.below K.below hY.lt).cell 1).trans (show _ = some (.int .i64 nd2) from rfl)
      have y2 := fun K : Kin WA.heap.size WA => ((hY.below K.below hY.lt).cell 2).trans (show _ = some (.int .i64 yy2) from rfl)
      have y3 := fun K : Kin WA.heap.size WA => ((hY.below K.below hY.lt).cell 3).trans (show _ = some (.int .i64 no2) from rfl)
      have y4 := fun K : Kin WA.heap.size WA => ((hY.below K.below hY.lt).cell 4).trans (show _ = some (.int .i64 ab2) from rfl)
      have HA := Lib.hid ha; have HB2 := Lib.hid hb; have HV := Lib.hid hv; clear ha hb hv
      go_wp2
      refine wp_region_kin (by kernel_rfl) (by kernel_rfl) ?_
      go_big_quiet_step (fail)
      go_big_quiet_step ((go_at_call 54; exact Kin.call _ (by first | exact Nat.le_refl _ | omega) (adopted_is m nd yy no ab ⟨hxb.1, hxb.2.1, hxb.2.2.1, hxb.2.2.2⟩ _ HA.out _)))
      go_big_quiet_step (fail)
      go_big_quiet_step ((go_at_call 54; exact Kin.call _ (by first | exact Nat.le_refl _ | omega) (adopted_is m2 nd2 yy2 no2 ab2 ⟨hyb.1, hyb.2.1, hyb.2.2.1, hyb.2.2.2⟩ _ HB2.out _)))
      repeat (go_big_quiet_step (fail))
      refine wpQuiet_nil ?_
      intro K
      have hX2 := hX.below K.below hX.lt; have hY2 := hY.below K.below hY.lt; have HB3 := bth HBW K.below
      clear x0 y0 x1 y1 x2 y2 x3 y3 x4 y4
      generalize K.world = WB at *
      have x0 := (hX2.cell 0).trans (show _ = some (.string m) from rfl)
      have x1 := (hX2.cell 1).trans (show _ = some (.int .i64 nd) from rfl)
      have x2 := (hX2.cell 2).trans (show _ = some (.int .i64 yy) from rfl)
      have x3 := (hX2.cell 3).trans (show _ = some (.int .i64 no) from rfl)
      have x4 := (hX2.cell 4).trans (show _ = some (.int .i64 ab) from rfl)
      have y0 := (hY2.cell 0).trans (show _ = some (.string m2) from rfl)
      have y1 := (hY2.cell 1).trans (show _ = some (.int .i64 nd2) from rfl)
      have y2 := (hY2.cell 2).trans (show _ = some (.int .i64 yy2) from rfl)
      have y3 := (hY2.cell 3).trans (show _ = some (.int .i64 no2) from rfl)
      have y4 := (hY2.cell 4).trans (show _ = some (.int .i64 ab2) from rfl)
      have HC : Hid ((if yy2 < yy then -1 else if yy < yy2 then 1 else 0) = v) := Lib.hid (by rw [← HV.out]; simp [ooCmp, Res.ado, HA.out, HB2.out])
      go_wp2_with fail
      refine (cmpCompare_is yy2 yy v HC.out _).mono ?_
      rintro e w5 ⟨rfl, h5⟩
      rw [h5]
      clear h5 w5
      go_wp2
      go_ret
      exact ⟨rfl, HB3⟩
end Go.Proofs.YtbnncgahepcfnaaDoor
