/- Reports: which outcomes failed by need alone. -/
import Derived.Test.YtbnncgahepcfnaaDoorRes2
import Derived.Test.YtbnncgahepcfnaaDoorInt2
import Derived.Test.YtbnncgahepcfnaaDoorDec3
import Derived.Deep.RegionWith
import Derived.Deep.Cut
namespace Go.Proofs.YtbnncgahepcfnaaDoor
open Go.RowKit Go.G9
def Res.ado (r : Res) : Bool := adoB r.need r.yes r.no
def obnP (r : Res) : Bool := !r.ado && decide (r.no < r.yes)
def obn (xs : List Res) : Nat → List Int
  | 0 => []
  | k + 1 => match xs[k]? with | some r => if obnP r then obn xs k ++ [(k : Int)] else obn xs k | none => obn xs k
theorem obn_len (xs : List Res) : ∀ k, (obn xs k).length ≤ k
  | 0 => Nat.le_refl _
  | k + 1 => by
    have := obn_len xs k
    unfold obn
    split
    · split <;> simp <;> omega
    · omega
def obnL (xs : List Res) : List Int := if reportB xs then obn xs xs.length else []
theorem adopted_is (m : ByteArray) (nd y n a : Int) (h : 0 ≤ y ∧ y ≤ 1000 ∧ 0 ≤ n ∧ n ≤ 1000) (v : Bool) (hv : adoB nd y n = v) (w : World) :
  Calls Tryd.prog 54 #[.agg #[.string m, .int .i64 nd, .int .i64 y, .int .i64 n, .int .i64 a]] w fun e w' => e = .returned (.bool v) ∧ Below w.heap.size w w' := by
  go_enter Tryd.func54, Tryd.ntmps54
  go_wp2_with (go_at_call 63; refine (isAdopted_is _ _ _ (by omega) (by omega) (by omega) (by omega) _ hv _).mono ?_; rintro e w' ⟨rfl, rfl⟩)
  go_ret
  exact ⟨rfl, bl1 _ _⟩
theorem l11Adopted_is (nd y n a : Int) (h : 0 ≤ y ∧ y ≤ 1000 ∧ 0 ≤ n ∧ n ≤ 1000) (v : Bool) (hv : adoB nd y n = v) (w : World) :
  Calls Tryd.prog 88 #[.int .i64 nd, .agg #[.int .i64 y, .int .i64 n, .int .i64 a]] w fun e w' => e = .returned (.bool v) ∧ Below w.heap.size w w' := by
  go_enter Tryd.func88, Tryd.ntmps88
  go_wp2_with (go_at_call 106; refine (l11Enough_is _ _ _ (by omega) (by omega) (by omega) (by omega) _ hv _).mono ?_; rintro e w' ⟨rfl, rfl⟩)
  go_ret
  exact ⟨rfl, bl1 _ _⟩
theorem l26Adopted_is (m : ByteArray) (nd y n a : Int) (h : 0 ≤ y ∧ y ≤ 1000 ∧ 0 ≤ n ∧ n ≤ 1000) (v : Bool) (hv : adoB nd y n = v) (w : World) :
  Calls Tryd.prog 51 #[.agg #[.string m, .int .i64 nd, .int .i64 y, .int .i64 n, .int .i64 a]] w fun e w' => e = .returned (.bool v) ∧ Below w.heap.size w w' := by
  go_enter Tryd.func51, Tryd.ntmps51
  go_wp2_with (go_at_call 88; refine (l11Adopted_is nd y n a h _ hv _).mono ?_; rintro e w' ⟨rfl, hb'⟩)
  go_ret
  exact ⟨rfl, bth (bl1 _ _) hb'⟩
set_option maxHeartbeats 2000000 in
set_option maxRecDepth 100000 in
theorem onlyByNeed_is (A : Option Addr) (c : Nat) (xs : List Res) (hn : xs.length ≤ 1048576) (w : World) (hR : Rds 5 Res.cells w A xs) :
  Calls Tryd.prog 27 #[.slice A xs.length c] w fun e w' => ∃ A c, e = .returned (.tuple #[.slice A (obnL xs).length c, .bool (reportB xs)]) ∧ OwnV w.heap.size 3 1 intC w' (.slice A (obnL xs).length c) (obnL xs) ∧ Below w.heap.size w w' := by
  obtain ⟨i0, hi, hz0, hz1, hz2⟩ := info_parts info_int
  cases hr : reportB xs
  · have h2 : obnL xs = [] := by simp [obnL, hr]
    rw [h2]
    go_enter Tryd.func27, Tryd.ntmps27
    go_wp2_with fail
    refine (isReport_is A c xs hn _ hr _ hR).mono ?_
    rintro e w1 ⟨rfl, hb1⟩
    go_wp2
    go_ret2
    exact ⟨none, 0, rfl, OwnV.nil, hb1⟩
  · have h2 : obnL xs = obn xs xs.length := by simp [obnL, hr]
    have H2 := Lib.hid h2; clear h2
    have hl := reportB_len hr
    go_enter Tryd.func27, Tryd.ntmps27
    go_wp2_with fail
    refine (isReport_is A c xs hn _ hr _ hR).mono ?_
    rintro e w1 ⟨rfl, hb1⟩
    have hR1 := hR.below hb1
    go_wp2
    go_loopw [4, 13] (fun v i wr => ∃ k : Nat, k ≤ xs.length ∧ i = .int .i64 k ∧ OwnV w1.heap.size 3 1 intC wr v (obn xs k) ∧ Below w1.heap.size w1 wr) (fun _ i _ => xs.length - (intOf i).toNat)
    case atStart => exact ⟨0, Nat.zero_le _, rfl, OwnV.made w1 (Nat.le_refl _) _, bl1 _ _⟩
    case round =>
      obtain ⟨k, hk, rfl, hO, hb⟩ := hrel
      by_cases hlt : k < xs.length
      · obtain ⟨b, off, x, rfl, hbl, hx, hcx⟩ := hR1.at_ hb hlt
        have hv := reportB_at hr hx
        obtain ⟨m, nd, y, n, a, hs⟩ := x
        obtain ⟨t1, t2, t3, t4, t5, t6, _, _⟩ := resB_bd hv
        have f0 := hcx 0 _ rfl
        have f1 := hcx 1 _ rfl
        have f2 := hcx 2 _ rfl
        have f3 := hcx 3 _ rfl
        have f4 := hcx 4 _ rfl
        simp only [Nat.add_zero] at f0
        have g0 := f0 (Kin.self _)
        have g1 := f1 (Kin.self _)
        have g2 := f2 (Kin.self _)
        have g3 := f3 (Kin.self _)
        have g4 := f4 (Kin.self _)
        simp only [Kin.self] at g0
        simp only [Kin.self] at g1
        simp only [Kin.self] at g2
        simp only [Kin.self] at g3
        simp only [Kin.self] at g4
        have hstep : obn xs (k + 1) = if obnP ⟨m, nd, y, n, a, hs⟩ then obn xs k ++ [(k : Int)] else obn xs k := by rw [obn, hx]
        have HS := Lib.hid hstep; clear hstep hx hcx hv
        have hml := obn_len xs k
        have HO := Lib.hid hO; clear hO
        go_wp2_with fail
        refine (adopted_is m nd y n a ⟨by omega, by omega, by omega, by omega⟩ _ rfl _).mono ?_
        rintro e w2 ⟨rfl, hb2⟩
        have hbox := Blk.below (Blk.new wr 31 #[.string m, .int .i64 nd, .int .i64 y, .int .i64 n, .int .i64 a]) hb2 (by simp)
        have hb2' := bth (bl1 wr _) hb2
        have HOK := Lib.hid (HO.out.later hb2')
        have z1 := hb.size
        have z2 := hb2'.size
        clear f0 f1 f2 f3 f4 g0 g1 g2 g3 g4
        have q0 := hbox.cell 0
        have q1 := hbox.cell 1
        have q2 := hbox.cell 2
        have q3 := hbox.cell 3
        have q4 := hbox.cell 4
        simp at q0 q1 q2 q3 q4
        cases ha : adoB nd y n <;> by_cases hyn : n < y
        all_goals first
          | (have hp : obnP ⟨m, nd, y, n, a, hs⟩ = true := by simp [obnP, Res.ado, ha, hyn]
             have HP := Lib.hid hp; clear hp
             go_wp2_with ((at_builtin; refine wpList_app rfl _ _ 44 rfl w1.heap.size 3 i0 _ 1 8 Tryd.underlying44 hi hz0 hz1 hz2 rfl (by decide) intC intC_len intC_one _ (obn xs k) rfl (HOK.out.alloc _) (some ⟨w2.heap.size, 0, none⟩) 1 [(k : Int)] rfl (Rds.one _ _) (fun h => by cases h) (by unfold maxLen; simp; omega) (by simp; omega) (by simp; omega) ?_; intro v' w4 hO4 hg4))
             have hB4 : Below w1.heap.size w1 w4 := ((bth hb hb2').alloc (by omega) _).grown hg4 (by simp; omega) (fun q hq => (HOK.out.lt q hq).1)
             go_roundw
             case rel => exact ⟨k + 1, by omega, by go_num, by rw [HS.out, if_pos HP.out]; exact hO4, hB4⟩
             case measure => simp [intOf]; omega)
          | (have hp : obnP ⟨m, nd, y, n, a, hs⟩ = false := by simp [obnP, Res.ado, ha]; try omega
             have HP := Lib.hid hp; clear hp
             go_wp2
             go_roundw
             case rel => exact ⟨k + 1, by omega, by go_num, by rw [HS.out, HP.out]; exact HOK.out, bth hb hb2'⟩
             case measure => simp [intOf]; omega)
      · obtain rfl : k = xs.length := by omega
        obtain ⟨A, c, rfl, hl, _, _⟩ := hO.form intC_len
        go_wp2
        go_ret2
        rw [H2.out]
        exact ⟨A, c, rfl, hO.base hb1.size, bth hb1 hb⟩
end Go.Proofs.YtbnncgahepcfnaaDoor
