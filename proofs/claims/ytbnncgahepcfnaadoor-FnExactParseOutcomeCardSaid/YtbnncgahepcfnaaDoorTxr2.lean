/- The lines of results, by the reference; reports. -/
import Derived.Test.YtbnncgahepcfnaaDoorTxr
namespace Go.Proofs.YtbnncgahepcfnaaDoor
open Go.RowKit Go.G9
set_option maxHeartbeats 4000000 in
set_option maxRecDepth 100000 in
theorem l26Line_is (r : Res) (hv : resB r = true) (w : World) :
  Calls Tryd.prog 44 #[.agg #[.string r.motion, .int .i64 r.need, .int .i64 r.yes, .int .i64 r.no, .int .i64 r.abst]] w fun e w' => e = .returned (.string r.line) ∧ Below w.heap.size w w' := by
  obtain ⟨m, nd, y, n, a, hs⟩ := r
  obtain ⟨t1, t2, t3, t4, t5, t6, t7, t8⟩ := resB_bd hv
  have hm : m.size ≤ 10 := by simp [resB, wordB, inB] at hv; omega
  have hnd : 1 ≤ nd ∧ nd ≤ 3 := by simp [resB, inB] at hv; omega
  clear hv
  have n1 := numS_size y (by omega)
  have n2 := numS_size n (by omega)
  have n3 := numS_size a (by omega)
  have b0 := boxed w #[.string m, .int .i64 nd, .int .i64 y, .int .i64 n, .int .i64 a] 31 0 (.string m) rfl
  have b1 := boxed w #[.string m, .int .i64 nd, .int .i64 y, .int .i64 n, .int .i64 a] 31 1 (.int .i64 nd) rfl
  have b2 := boxed w #[.string m, .int .i64 nd, .int .i64 y, .int .i64 n, .int .i64 a] 31 2 (.int .i64 y) rfl
  have b3 := boxed w #[.string m, .int .i64 nd, .int .i64 y, .int .i64 n, .int .i64 a] 31 3 (.int .i64 n) rfl
  have b4 := boxed w #[.string m, .int .i64 nd, .int .i64 y, .int .i64 n, .int .i64 a] 31 4 (.int .i64 a) rfl
  have HA := Lib.hid (show adoB nd y n = Res.ado ⟨m, nd, y, n, a, hs⟩ from rfl)
  generalize hX : Res.ado ⟨m, nd, y, n, a, hs⟩ = X at HA
  have HX := Lib.hid hX; clear hX
  have had : X = true ∨ X = false := by cases X <;> simp
  have hc : nd = 1 ∨ nd = 2 ∨ nd = 3 := by omega
  by_cases ha : 0 < a
  · rcases hc with rfl | rfl | rfl <;> rcases had with rfl | rfl
    all_goals
      clear hnd
      go_enter Tryd.func44, Tryd.ntmps44
      go_wp2
      refine wp_region_kin (by kernel_rfl) (by kernel_rfl) ?_
      repeat (go_big_quiet_step ((first | (go_at_call 52; exact Kin.call _ (by first | exact Nat.le_refl _ | omega) (l1Num_is _ (by omega) (by omega) _)))))
      refine wpQuiet_nil ?_
      intro K
      have hq1 : Below w.heap.size w K.world := bth (by repeat (first | exact Below.refl _ _ | refine Below.alloc ?_ (by first | exact Nat.le_refl _ | (simp <;> omega)) _ | refine Below.setCell ?_ (by first | exact Nat.le_refl _ | (simp <;> omega)) _)) K.below
      have HB : Below w.heap.size w K.world := hq1
      have hA : Blk K.world (w.heap.size) 31 #[.string m, .int .i64 _, .int .i64 y, .int .i64 n, .int .i64 a] := Blk.below (by repeat (first | exact Blk.new _ _ _ | exact Blk.new2 _ _ _ _ | exact Blk.new3 _ _ _ _ _ | exact Blk.new4 _ _ _ _ _ _ | refine Blk.alloc ?_ _)) K.below (by simp <;> omega)
      have c0 := (hA.cell 0).trans (show _ = some (.string m) from rfl)
      have c1 := (hA.cell 1).trans (show _ = some (.int .i64 _) from rfl)
      have c2 := (hA.cell 2).trans (show _ = some (.int .i64 y) from rfl)
      have c3 := (hA.cell 3).trans (show _ = some (.int .i64 n) from rfl)
      have c4 := (hA.cell 4).trans (show _ = some (.int .i64 a) from rfl)
      clear b0 b1 b2 b3 b4
      go_wp2_with fail
      refine (l1Num_is a (by omega) (by omega) _).mono ?_
      rintro e w2 ⟨rfl, hb2⟩
      have hq2 : Below K.world.heap.size K.world w2 := bth (by repeat (first | exact Below.refl _ _ | refine Below.alloc ?_ (by first | exact Nat.le_refl _ | (simp <;> omega)) _ | refine Below.setCell ?_ (by first | exact Nat.le_refl _ | (simp <;> omega)) _)) hb2
      replace HB := bth HB hq2
      replace hA := hA.below hq2 hA.lt
      replace c0 := (hA.cell 0).trans (show _ = some (.string m) from rfl)
      replace c1 := (hA.cell 1).trans (show _ = some (.int .i64 _) from rfl)
      replace c2 := (hA.cell 2).trans (show _ = some (.int .i64 y) from rfl)
      replace c3 := (hA.cell 3).trans (show _ = some (.int .i64 n) from rfl)
      replace c4 := (hA.cell 4).trans (show _ = some (.int .i64 a) from rfl)
      have yhA := hA.lt
      go_wp2_with fail
      refine (l26Adopted_is m _ y n a ⟨by omega, by omega, by omega, by omega⟩ _ HA.out _).mono ?_
      rintro e w3 ⟨rfl, hb3⟩
      have hq3 : Below w2.heap.size w2 w3 := bth (by repeat (first | exact Below.refl _ _ | refine Below.alloc ?_ (by first | exact Nat.le_refl _ | (simp <;> omega)) _ | refine Below.setCell ?_ (by first | exact Nat.le_refl _ | (simp <;> omega)) _)) hb3
      replace HB := bth HB hq3
      replace hA := hA.below hq3 hA.lt
      replace c0 := (hA.cell 0).trans (show _ = some (.string m) from rfl)
      replace c1 := (hA.cell 1).trans (show _ = some (.int .i64 _) from rfl)
      replace c2 := (hA.cell 2).trans (show _ = some (.int .i64 y) from rfl)
      replace c3 := (hA.cell 3).trans (show _ = some (.int .i64 n) from rfl)
      replace c4 := (hA.cell 4).trans (show _ = some (.int .i64 a) from rfl)
      go_wp2
      go_ret
      refine ⟨?_, (bth HB (by repeat (first | exact Below.refl _ _ | refine Below.alloc ?_ (by first | exact Nat.le_refl _ | (simp <;> omega)) _ | refine Below.setCell ?_ (by first | exact Nat.le_refl _ | (simp <;> omega)) _)))⟩
      unfold Res.line
      rw [HX.out, votS, if_pos (show 0 < a by omega)]
      show Ending.returned (Value.string _) = _
      refine congrArg Ending.returned (congrArg Value.string ?_)
      first
        | (rw [show (⟨#[44, 32, 97, 100, 111, 112, 116, 101, 100]⟩ : ByteArray) = (⟨#[44, 32]⟩ : ByteArray) ++ (⟨#[97, 100, 111, 112, 116, 101, 100]⟩ : ByteArray) from rfl]; simp only [ByteArray.append_assoc]; rfl)
        | (rw [show (⟨#[44, 32, 114, 101, 106, 101, 99, 116, 101, 100]⟩ : ByteArray) = (⟨#[44, 32]⟩ : ByteArray) ++ (⟨#[114, 101, 106, 101, 99, 116, 101, 100]⟩ : ByteArray) from rfl]; simp only [ByteArray.append_assoc]; rfl)
  · rcases hc with rfl | rfl | rfl <;> rcases had with rfl | rfl
    all_goals
      clear hnd
      go_enter Tryd.func44, Tryd.ntmps44
      go_wp2
      refine wp_region_kin (by kernel_rfl) (by kernel_rfl) ?_
      repeat (go_big_quiet_step ((first | (go_at_call 52; exact Kin.call _ (by first | exact Nat.le_refl _ | omega) (l1Num_is _ (by omega) (by omega) _)))))
      refine wpQuiet_nil ?_
      intro K
      have hq1 : Below w.heap.size w K.world := bth (by repeat (first | exact Below.refl _ _ | refine Below.alloc ?_ (by first | exact Nat.le_refl _ | (simp <;> omega)) _ | refine Below.setCell ?_ (by first | exact Nat.le_refl _ | (simp <;> omega)) _)) K.below
      have HB : Below w.heap.size w K.world := hq1
      have hA : Blk K.world (w.heap.size) 31 #[.string m, .int .i64 _, .int .i64 y, .int .i64 n, .int .i64 a] := Blk.below (by repeat (first | exact Blk.new _ _ _ | exact Blk.new2 _ _ _ _ | exact Blk.new3 _ _ _ _ _ | exact Blk.new4 _ _ _ _ _ _ | refine Blk.alloc ?_ _)) K.below (by simp <;> omega)
      have c0 := (hA.cell 0).trans (show _ = some (.string m) from rfl)
      have c1 := (hA.cell 1).trans (show _ = some (.int .i64 _) from rfl)
      have c2 := (hA.cell 2).trans (show _ = some (.int .i64 y) from rfl)
      have c3 := (hA.cell 3).trans (show _ = some (.int .i64 n) from rfl)
      have c4 := (hA.cell 4).trans (show _ = some (.int .i64 a) from rfl)
      clear b0 b1 b2 b3 b4
      have yhA := hA.lt
      go_wp2_with fail
      refine (l26Adopted_is m _ y n a ⟨by omega, by omega, by omega, by omega⟩ _ HA.out _).mono ?_
      rintro e w2 ⟨rfl, hb2⟩
      have hq2 : Below K.world.heap.size K.world w2 := bth (by repeat (first | exact Below.refl _ _ | refine Below.alloc ?_ (by first | exact Nat.le_refl _ | (simp <;> omega)) _ | refine Below.setCell ?_ (by first | exact Nat.le_refl _ | (simp <;> omega)) _)) hb2
      replace HB := bth HB hq2
      replace hA := hA.below hq2 hA.lt
      replace c0 := (hA.cell 0).trans (show _ = some (.string m) from rfl)
      replace c1 := (hA.cell 1).trans (show _ = some (.int .i64 _) from rfl)
      replace c2 := (hA.cell 2).trans (show _ = some (.int .i64 y) from rfl)
      replace c3 := (hA.cell 3).trans (show _ = some (.int .i64 n) from rfl)
      replace c4 := (hA.cell 4).trans (show _ = some (.int .i64 a) from rfl)
      go_wp2
      go_ret
      refine ⟨?_, (bth HB (by repeat (first | exact Below.refl _ _ | refine Below.alloc ?_ (by first | exact Nat.le_refl _ | (simp <;> omega)) _ | refine Below.setCell ?_ (by first | exact Nat.le_refl _ | (simp <;> omega)) _)))⟩
      unfold Res.line
      rw [HX.out, votS, if_neg (show ¬ 0 < a by omega)]
      show Ending.returned (Value.string _) = _
      refine congrArg Ending.returned (congrArg Value.string ?_)
      first
        | (rw [show (⟨#[44, 32, 97, 100, 111, 112, 116, 101, 100]⟩ : ByteArray) = (⟨#[44, 32]⟩ : ByteArray) ++ (⟨#[97, 100, 111, 112, 116, 101, 100]⟩ : ByteArray) from rfl]; simp only [ByteArray.append_assoc]; rfl)
        | (rw [show (⟨#[44, 32, 114, 101, 106, 101, 99, 116, 101, 100]⟩ : ByteArray) = (⟨#[44, 32]⟩ : ByteArray) ++ (⟨#[114, 101, 106, 101, 99, 116, 101, 100]⟩ : ByteArray) from rfl]; simp only [ByteArray.append_assoc]; rfl)
end Go.Proofs.YtbnncgahepcfnaaDoor
