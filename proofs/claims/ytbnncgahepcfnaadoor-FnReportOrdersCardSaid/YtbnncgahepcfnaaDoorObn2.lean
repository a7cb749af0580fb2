/- Reports: which outcomes failed by need alone, by the reference. -/
import Derived.Test.YtbnncgahepcfnaaDoorObn
namespace Go.Proofs.YtbnncgahepcfnaaDoor
open Go.RowKit Go.G9
set_option maxHeartbeats 2000000 in
set_option maxRecDepth 100000 in
theorem sOnlyByNeed_is (A : Option Addr) (c : Nat) (xs : List Res) (hn : xs.length ≤ 1048576) (w : World) (hR : Rds 5 Res.cells w A xs) :
  Calls Tryd.prog 28 #[.slice A xs.length c] w fun e w' => ∃ A c, e = .returned (.tuple #[.slice A (obnL xs).length c, .bool (reportB xs)]) ∧ OwnV w.heap.size 3 1 intC w' (.slice A (obnL xs).length c) (obnL xs) ∧ Below w.heap.size w w' := by
  obtain ⟨i0, hi, hz0, hz1, hz2⟩ := info_parts info_int
  cases hr : reportB xs
  · have h2 : obnL xs = [] := by simp [obnL, hr]
    rw [h2]
    go_enter Tryd.func28, Tryd.ntmps28
    go_wp2_with fail
    refine (l26Good_is A c xs hn _ hr _ (hR.below (bl1 _ _))).mono ?_
    rintro e w1 ⟨rfl, hb1⟩
    have hO := (OwnV.made w (B := w.heap.size) (sz := 1) (f := intC) (Nat.le_refl _) 3).later hb1
    go_wp2
    go_ret2
    exact ⟨_, _, rfl, hO, bth (bl1 _ _) hb1⟩
  · have h2 : obnL xs = obn xs xs.length := by simp [obnL, hr]
    have H2 := Lib.hid h2; clear h2
    have hl := reportB_len hr
    go_enter Tryd.func28, Tryd.ntmps28
    go_wp2_with fail
    refine (l26Good_is A c xs hn _ hr _ (hR.below (bl1 _ _))).mono ?_
    rintro e w1 ⟨rfl, hb1⟩
    have hO := (OwnV.made w (B := w.heap.size) (sz := 1) (f := intC) (Nat.le_refl _) 3).later hb1
    have hb1' := bth (bl1 w _) hb1
    go_wp2
    go_loopw [4, 5] (fun v i wr => ∃ k : Nat, k ≤ xs.length ∧ i = .int .i64 k ∧ OwnV w.heap.size 3 1 intC wr v (obn xs k) ∧ Below w.heap.size w wr) (fun _ i _ => xs.length - (intOf i).toNat)
    case atStart => exact ⟨0, Nat.zero_le _, rfl, hO, hb1'⟩
    case round =>
      clear hO
      obtain ⟨k, hk, rfl, hO, hb⟩ := hrel
      by_cases hlt : k < xs.length
      · obtain ⟨b, off, x, rfl, hbl, hx, hcx⟩ := hR.at_ hb hlt
        have hv := reportB_at hr hx
        obtain ⟨m, nd, y, n, a, hs⟩ := x
        obtain ⟨t1, t2, t3, t4, t5, t6, _, _⟩ := resB_bd hv
        have f0 := hcx 0 _ rfl
        have f1 := hcx 1 _ rfl
        have f2 := hcx 2 _ rfl
        have f3 := hcx 3 _ rfl
        have f4 := hcx 4 _ rfl
        simp only [Nat.add_zero] at f0
        have hstep : obn xs (k + 1) = if obnP ⟨m, nd, y, n, a, hs⟩ then obn xs k ++ [(k : Int)] else obn xs k := by rw [obn, hx]
        have HS := Lib.hid hstep; clear hstep hx hcx hv
        have hml := obn_len xs k
        have HO := Lib.hid hO; clear hO
        have z1 := hb.size
        cases ha : adoB nd y n <;> by_cases hyn : n < y
        all_goals
          go_wp2
          refine wp_region_kin (by kernel_rfl) (by kernel_rfl) ?_
          repeat (go_big_quiet_step ((first | (go_at_call 51; exact Kin.call _ (by first | exact Nat.le_refl _ | omega) (l26Adopted_is m nd y n a ⟨by omega, by omega, by omega, by omega⟩ _ ha _)))))
          refine wpQuiet_nil ?_
          intro K
          have z2 := K.below.size
          have HOK := Lib.hid (HO.out.later K.below)
          clear f0 f1 f2 f3 f4
        all_goals first
          | (have hp : obnP ⟨m, nd, y, n, a, hs⟩ = true := by simp [obnP, Res.ado, ha, hyn]
             have HP := Lib.hid hp; clear hp
             go_wp2_with ((at_builtin; refine wpList_app rfl _ _ 44 rfl w.heap.size 3 i0 _ 1 8 Tryd.underlying44 hi hz0 hz1 hz2 rfl (by decide) intC intC_len intC_one _ (obn xs k) rfl (HOK.out.alloc _) (some ⟨K.world.heap.size, 0, none⟩) 1 [(k : Int)] rfl (Rds.one _ _) (fun h => by cases h) (by unfold maxLen; simp; omega) (by simp; omega) (by simp; omega) ?_; intro v' w4 hO4 hg4))
             have hB4 : Below w.heap.size w w4 := ((bth hb K.below).alloc (by omega) _).grown hg4 (by simp; omega) (fun q hq => (HOK.out.lt q hq).1)
             go_roundw
             case rel => exact ⟨k + 1, by omega, by go_num, by rw [HS.out, if_pos HP.out]; exact hO4, hB4⟩
             case measure => simp [intOf]; omega)
          | (have hp : obnP ⟨m, nd, y, n, a, hs⟩ = false := by simp [obnP, Res.ado, ha]; try omega
             have HP := Lib.hid hp; clear hp
             go_wp2
             go_roundw
             case rel => exact ⟨k + 1, by omega, by go_num, by rw [HS.out, HP.out]; exact HOK.out, bth hb K.below⟩
             case measure => simp [intOf]; omega)
      · obtain rfl : k = xs.length := by omega
        obtain ⟨A, c, rfl, hl, _, _⟩ := hO.form intC_len
        go_wp2
        go_ret2
        rw [H2.out]
        exact ⟨A, c, rfl, hO, hb⟩
end Go.Proofs.YtbnncgahepcfnaaDoor
