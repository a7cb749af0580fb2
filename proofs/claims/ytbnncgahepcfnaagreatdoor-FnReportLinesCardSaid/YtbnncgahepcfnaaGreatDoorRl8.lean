/- The lines of results. -/
import Derived.Test.YtbnncgahepcfnaaGreatDoorRl5
import Derived.Test.YtbnncgahepcfnaaGreatDoorRl7
namespace Go.Proofs.YtbnncgahepcfnaaGreatDoor
open Go.RowKit Go.G9
def phrase (n : Int) : ByteArray := if n = 1 then (⟨#[97, 32, 109, 97, 106, 111, 114, 105, 116, 121]⟩ : ByteArray) else if n = 2 then (⟨#[116, 119, 111, 32, 116, 104, 105, 114, 100, 115]⟩ : ByteArray) else (⟨#[97, 108, 108]⟩ : ByteArray)
def votS (y n a : Int) : ByteArray := if 0 < a then (numS y ++ (⟨#[32, 116, 111, 32]⟩ : ByteArray) ++ numS n) ++ ((⟨#[32, 119, 105, 116, 104, 32]⟩ : ByteArray) ++ numS a ++ (⟨#[32, 97, 98, 115, 116, 97, 105, 110, 105, 110, 103]⟩ : ByteArray)) else numS y ++ (⟨#[32, 116, 111, 32]⟩ : ByteArray) ++ numS n
def Res.line (r : Res) : ByteArray := r.motion ++ (⟨#[58, 32]⟩ : ByteArray) ++ votS r.yes r.no r.abst ++ (⟨#[44, 32, 110, 101, 101, 100, 115, 32]⟩ : ByteArray) ++ phrase r.need ++ (⟨#[44, 32]⟩ : ByteArray) ++ (if r.ado then (⟨#[97, 100, 111, 112, 116, 101, 100]⟩ : ByteArray) else (⟨#[114, 101, 106, 101, 99, 116, 101, 100]⟩ : ByteArray))
theorem phrase_size (n : Int) : (phrase n).size ≤ 10 := by unfold phrase; split <;> (try split) <;> decide
theorem votS_size {y n a : Int} (h : 0 ≤ y ∧ y ≤ 1000 ∧ 0 ≤ n ∧ n ≤ 1000 ∧ 0 ≤ a ∧ a ≤ 1000) : (votS y n a).size ≤ 60 := by
  have h1 := numS_size y (by omega)
  have h2 := numS_size n (by omega)
  have h3 := numS_size a (by omega)
  have e1 : ((⟨#[32, 116, 111, 32]⟩ : ByteArray)).size = 4 := rfl
  have e2 : ((⟨#[32, 119, 105, 116, 104, 32]⟩ : ByteArray)).size = 6 := rfl
  have e3 : ((⟨#[32, 97, 98, 115, 116, 97, 105, 110, 105, 110, 103]⟩ : ByteArray)).size = 11 := rfl
  unfold votS
  split <;> simp only [ByteArray.size_append] <;> omega
theorem Res.line_size (r : Res) (h : resB r = true) : r.line.size ≤ 110 := by
  obtain ⟨m, nd, y, n, a, hs⟩ := r
  obtain ⟨t1, t2, t3, t4, t5, t6, t7, t8⟩ := resB_bd h
  have hm : m.size ≤ 10 := by simp [resB, wordB, inB] at h; omega
  have h1 := votS_size (y := y) (n := n) (a := a) (by omega)
  have h2 := phrase_size nd
  have e1 : ((⟨#[58, 32]⟩ : ByteArray)).size = 2 := rfl
  have e2 : ((⟨#[44, 32, 110, 101, 101, 100, 115, 32]⟩ : ByteArray)).size = 8 := rfl
  have e3 : ((⟨#[44, 32]⟩ : ByteArray)).size = 2 := rfl
  unfold Res.line
  simp only [ByteArray.size_append]
  split
  · have : ((⟨#[97, 100, 111, 112, 116, 101, 100]⟩ : ByteArray)).size = 7 := rfl
    omega
  · have : ((⟨#[114, 101, 106, 101, 99, 116, 101, 100]⟩ : ByteArray)).size = 8 := rfl
    omega
theorem passedWord_is (p : Bool) (s t : ByteArray) (w : World) : Calls Tryz.prog 87 #[.bool p, .string s, .string t] w fun e w' => e = .returned (.string (if p then s else t)) ∧ w' = w := by
  cases p <;>
  · go_enter Tryz.func87, Tryz.ntmps87
    go_wp2
    go_ret
    exact ⟨rfl, rfl⟩
set_option maxHeartbeats 1000000 in
set_option maxRecDepth 100000 in
theorem votesText_is (y n a : Int) (h : 0 ≤ y ∧ y ≤ 1000 ∧ 0 ≤ n ∧ n ≤ 1000 ∧ 0 ≤ a ∧ a ≤ 1000) (w : World) (hT : Tab w) :
  Calls Tryz.prog 86 #[.agg #[.int .i64 y, .int .i64 n, .int .i64 a]] w fun e w' => e = .returned (.string (votS y n a)) ∧ Below w.heap.size w w' := by
  have HT := Lib.hid (hT.below (bl1 w (.cells #[.int .i64 y, .int .i64 n, .int .i64 a] 25)))
  have n1 := numS_size y (by omega)
  have n2 := numS_size n (by omega)
  have n3 := numS_size a (by omega)
  obtain ⟨h1, h2, h3, h4, h5, h6⟩ := h
  have b0 := boxed w #[.int .i64 y, .int .i64 n, .int .i64 a] 25 0 (.int .i64 y) rfl
  have b1 := boxed w #[.int .i64 y, .int .i64 n, .int .i64 a] 25 1 (.int .i64 n) rfl
  have b2 := boxed w #[.int .i64 y, .int .i64 n, .int .i64 a] 25 2 (.int .i64 a) rfl
  by_cases ha : 0 < a
  · go_enter Tryz.func86, Tryz.ntmps86
    go_wp2
    refine wp_region_kin (by kernel_rfl) (by kernel_rfl) ?_
    repeat (go_big_quiet_step ((first | (go_at_call 99; exact Kin.call _ (by first | exact Nat.le_refl _ | omega) (itoa_is _ (by omega) (by omega) _ (HT.out.below (Kin.below _)))))))
    refine wpQuiet_nil ?_
    intro K
    have c2 := b2 K
    go_wp2_with fail
    refine (itoa_is a (by omega) (by omega) _ (HT.out.below K.below)).mono ?_
    rintro e w2 ⟨rfl, hb2⟩
    go_wp2
    go_ret
    exact ⟨by rw [votS, if_pos (by omega)]; rfl, bth (bth (bl1 _ _) K.below) hb2⟩
  · go_enter Tryz.func86, Tryz.ntmps86
    go_wp2
    refine wp_region_kin (by kernel_rfl) (by kernel_rfl) ?_
    repeat (go_big_quiet_step ((first | (go_at_call 99; exact Kin.call _ (by first | exact Nat.le_refl _ | omega) (itoa_is _ (by omega) (by omega) _ (HT.out.below (Kin.below _)))))))
    refine wpQuiet_nil ?_
    intro K
    have c2 := b2 K
    go_wp2
    go_ret
    exact ⟨by rw [votS, if_neg (by omega)]; rfl, bth (bl1 _ _) K.below⟩
/-- The phrases for the needs stand. -/
def Phr (w : World) : Prop := 0 < w.heap.size ∧ ∃ c0 : ByteArray, ∀ (i : Nat) (s : ByteArray), [c0, (⟨#[97, 32, 109, 97, 106, 111, 114, 105, 116, 121]⟩ : ByteArray), (⟨#[116, 119, 111, 32, 116, 104, 105, 114, 100, 115]⟩ : ByteArray), (⟨#[97, 108, 108]⟩ : ByteArray)][i]? = some s → w.cell? ⟨0, i, none⟩ = some (.string s)
theorem Phr.below {w w' : World} (h : Phr w) (hb : Below w.heap.size w w') : Phr w' := by
  obtain ⟨h1, c0, h2⟩ := h
  exact ⟨Nat.lt_of_lt_of_le h1 hb.size, c0, fun i s hi => (hb.cell (p := ⟨0, i, none⟩) h1).trans (h2 i s hi)⟩
set_option maxHeartbeats 4000000 in
set_option maxRecDepth 100000 in
theorem outcomeLine_is (r : Res) (hv : resB r = true) (w : World) (hT : Tab w) (hP : Phr w) :
  Calls Tryz.prog 41 #[.agg #[.string r.motion, .int .i64 r.need, .int .i64 r.yes, .int .i64 r.no, .int .i64 r.abst]] w fun e w' => e = .returned (.string r.line) ∧ Below w.heap.size w w' := by
  obtain ⟨m, nd, y, n, a, hs⟩ := r
  obtain ⟨t1, t2, t3, t4, t5, t6, t7, t8⟩ := resB_bd hv
  have hm : m.size ≤ 10 := by simp [resB, wordB, inB] at hv; omega
  have hnd : 1 ≤ nd ∧ nd ≤ 3 := by simp [resB, inB] at hv; omega
  have v1 := votS_size (y := y) (n := n) (a := a) (by omega)
  have p1 := phrase_size nd
  have hb0 := bl1 w (.cells #[.string m, .int .i64 nd, .int .i64 y, .int .i64 n, .int .i64 a] 27)
  have HT := Lib.hid (hT.below hb0)
  obtain ⟨hg, c0, hp⟩ := hP.below hb0
  have q1 : ∀ K : Kin (w.alloc (.cells #[.string m, .int .i64 nd, .int .i64 y, .int .i64 n, .int .i64 a] 27)).heap.size (w.alloc (.cells #[.string m, .int .i64 nd, .int .i64 y, .int .i64 n, .int .i64 a] 27)), K.world.cell? ⟨0, nd.toNat, none⟩ = some (.string (phrase nd)) := fun K => by
    refine (K.cell (p := ⟨0, nd.toNat, none⟩) hg).trans (hp nd.toNat (phrase nd) ?_)
    rcases (show nd = 1 ∨ nd = 2 ∨ nd = 3 by omega) with rfl | rfl | rfl <;> rfl
  clear hg hp hb0
  have b0 := boxed w #[.string m, .int .i64 nd, .int .i64 y, .int .i64 n, .int .i64 a] 27 0 (.string m) rfl
  have b1 := boxed w #[.string m, .int .i64 nd, .int .i64 y, .int .i64 n, .int .i64 a] 27 1 (.int .i64 nd) rfl
  have b2 := boxed w #[.string m, .int .i64 nd, .int .i64 y, .int .i64 n, .int .i64 a] 27 2 (.int .i64 y) rfl
  have b3 := boxed w #[.string m, .int .i64 nd, .int .i64 y, .int .i64 n, .int .i64 a] 27 3 (.int .i64 n) rfl
  have b4 := boxed w #[.string m, .int .i64 nd, .int .i64 y, .int .i64 n, .int .i64 a] 27 4 (.int .i64 a) rfl
  have had : (if Res.ado ⟨m, nd, y, n, a, hs⟩ then (⟨#[97, 100, 111, 112, 116, 101, 100]⟩ : ByteArray) else (⟨#[114, 101, 106, 101, 99, 116, 101, 100]⟩ : ByteArray) : ByteArray).size ≤ 8 := by split <;> decide
  have HA := Lib.hid (show adoB nd y n = Res.ado ⟨m, nd, y, n, a, hs⟩ from rfl)
  generalize hX : Res.ado ⟨m, nd, y, n, a, hs⟩ = X at had HA
  have HX := Lib.hid hX; clear hX
  have hnt : ((nd.toNat : Nat) : Int) = nd := by omega
  obtain ⟨k, rfl⟩ : ∃ k : Nat, nd = k := ⟨nd.toNat, hnt.symm⟩
  clear hnt
  simp only [Int.toNat_natCast] at q1
  cases X
  all_goals
    go_enter Tryz.func41, Tryz.ntmps41
    go_wp2
    refine wp_region_kin (by kernel_rfl) (by kernel_rfl) ?_
    repeat (go_big_quiet_step ((first | (go_at_call 86; exact Kin.call _ (by first | exact Nat.le_refl _ | omega) (votesText_is y n a ⟨by omega, by omega, by omega, by omega, by omega, by omega⟩ _ (HT.out.below (Kin.below _)))) | (go_at_call 88; exact Kin.call _ (by first | exact Nat.le_refl _ | omega) (adopted_is m k y n a ⟨by omega, by omega, by omega, by omega⟩ _ HA.out _)) | (go_at_call 87; exact Kin.same _ (passedWord_is _ _ _ _)))))
    refine wpQuiet_nil ?_
    intro K
    go_wp2
    go_ret
    refine ⟨?_, bth (bl1 _ _) K.below⟩
    unfold Res.line
    rw [HX.out]
    rfl
end Go.Proofs.YtbnncgahepcfnaaGreatDoor
/- The lines of results, by the reference; reports. -/
namespace Go.Proofs.YtbnncgahepcfnaaGreatDoor
open Go.RowKit Go.G9
set_option maxHeartbeats 4000000 in
set_option maxRecDepth 100000 in
theorem l26Line_is (r : Res) (hv : resB r = true) (w : World) :
  Calls Tryz.prog 43 #[.agg #[.string r.motion, .int .i64 r.need, .int .i64 r.yes, .int .i64 r.no, .int .i64 r.abst]] w fun e w' => e = .returned (.string r.line) ∧ Below w.heap.size w w' := by
  obtain ⟨m, nd, y, n, a, hs⟩ := r
  obtain ⟨t1, t2, t3, t4, t5, t6, t7, t8⟩ := resB_bd hv
  have hm : m.size ≤ 10 := by simp [resB, wordB, inB] at hv; omega
  have hnd : 1 ≤ nd ∧ nd ≤ 3 := by simp [resB, inB] at hv; omega
  clear hv
  have n1 := numS_size y (by omega)
  have n2 := numS_size n (by omega)
  have n3 := numS_size a (by omega)
  have b0 := boxed w #[.string m, .int .i64 nd, .int .i64 y, .int .i64 n, .int .i64 a] 27 0 (.string m) rfl
  have b1 := boxed w #[.string m, .int .i64 nd, .int .i64 y, .int .i64 n, .int .i64 a] 27 1 (.int .i64 nd) rfl
  have b2 := boxed w #[.string m, .int .i64 nd, .int .i64 y, .int .i64 n, .int .i64 a] 27 2 (.int .i64 y) rfl
  have b3 := boxed w #[.string m, .int .i64 nd, .int .i64 y, .int .i64 n, .int .i64 a] 27 3 (.int .i64 n) rfl
  have b4 := boxed w #[.string m, .int .i64 nd, .int .i64 y, .int .i64 n, .int .i64 a] 27 4 (.int .i64 a) rfl
  have HA := Lib.hid (show adoB nd y n = Res.ado ⟨m, nd, y, n, a, hs⟩ from rfl)
  generalize hX : Res.ado ⟨m, nd, y, n, a, hs⟩ = X at HA
  have HX := Lib.hid hX; clear hX
  have had : X = true ∨ X = false := by cases X <;> simp
  have hc : nd = 1 ∨ nd = 2 ∨ nd = 3 := by omega
  by_cases ha : 0 < a
  · rcases hc with rfl | rfl | rfl <;> rcases had with rfl | rfl
    all_goals
      clear hnd
      go_enter Tryz.func43, Tryz.ntmps43
      go_wp2
      refine wp_region_kin (by kernel_rfl) (by kernel_rfl) ?_
      repeat (go_big_quiet_step ((first | (go_at_call 92; exact Kin.call _ (by first | exact Nat.le_refl _ | omega) (l1Num_is _ (by omega) (by omega) _)))))
      refine wpQuiet_nil ?_
      intro K
      have hq1 : Below w.heap.size w K.world := bth (by repeat (first | exact Below.refl _ _ | refine Below.alloc ?_ (by first | exact Nat.le_refl _ | (simp <;> omega)) _ | refine Below.setCell ?_ (by first | exact Nat.le_refl _ | (simp <;> omega)) _)) K.below
      have HB : Below w.heap.size w K.world := hq1
      have hA : Blk K.world (w.heap.size) 27 #[.string m, .int .i64 _, .int .i64 y, .int .i64 n, .int .i64 a] := Blk.below (by repeat (first | exact Blk.new _ _ _ | exact Blk.new2 _ _ _ _ | exact Blk.new3 _ _ _ _ _ | exact Blk.new4 _ _ _ _ _ _ | refine Blk.alloc ?_ _)) K.below (by simp <;> omega)
      have c0 := (hA.cell 0).trans (show _ = some (.string m) from rfl)
      have c1 := (hA.cell 1).trans (show _ = some (.int .i64 _) from rfl)
      have c2 := (hA.cell 2).trans (show _ = some (.int .i64 y) from rfl)
      have c3 := (hA.cell 3).trans (show _ = some (.int .i64 n) from rfl)
      have c4 := (hA.cell 4).trans (show _ = some (.int .i64 a) from rfl)
      clear b0 b1 b2 b3 b4
      go_wp2_with fail
      refine (l1Num_is a (by omega) (by omega) _).mono ?_
      rintro e w2 ⟨rfl, hb2⟩
      have hq2 : Below K.world.heap.size K.world w2 := bth (by repeat (first | exact Below.refl _ _ | refine Below.alloc ?_ (by first | exact Nat.le_refl _ | (simp <;> omega)) _ | refine Below.setCell ?_ (by first | exact Nat.le_refl _ | (simp <;> omega)) _)) hb2
      replace HB := bth HB hq2
      replace hA := hA.below hq2 hA.lt
      replace c0 := (hA.cell 0).trans (show _ = some (.string m) from rfl)
      replace c1 := (hA.cell 1).trans (show _ = some (.int .i64 _) from rfl)
      replace c2 := (hA.cell 2).trans (show _ = some (.int .i64 y) from rfl)
      replace c3 := (hA.cell 3).trans (show _ = some (.int .i64 n) from rfl)
      replace c4 := (hA.cell 4).trans (show _ = some (.int .i64 a) from rfl)
      have yhA := hA.lt
      go_wp2_with fail
      refine (l26Adopted_is m _ y n a ⟨by omega, by omega, by omega, by omega⟩ _ HA.out _).mono ?_
      rintro e w3 ⟨rfl, hb3⟩
      have hq3 : Below w2.heap.size w2 w3 := bth (by repeat (first | exact Below.refl _ _ | refine Below.alloc ?_ (by first | exact Nat.le_refl _ | (simp <;> omega)) _ | refine Below.setCell ?_ (by first | exact Nat.le_refl _ | (simp <;> omega)) _)) hb3
      replace HB := bth HB hq3
      replace hA := hA.below hq3 hA.lt
      replace c0 := (hA.cell 0).trans (show _ = some (.string m) from rfl)
      replace c1 := (hA.cell 1).trans (show _ = some (.int .i64 _) from rfl)
      replace c2 := (hA.cell 2).trans (show _ = some (.int .i64 y) from rfl)
      replace c3 := (hA.cell 3).trans (show _ = some (.int .i64 n) from rfl)
      replace c4 := (hA.cell 4).trans (show _ = some (.int .i64 a) from rfl)
      go_wp2
      go_ret
      refine ⟨?_, (bth HB (by repeat (first | exact Below.refl _ _ | refine Below.alloc ?_ (by first | exact Nat.le_refl _ | (simp <;> omega)) _ | refine Below.setCell ?_ (by first | exact Nat.le_refl _ | (simp <;> omega)) _)))⟩
      unfold Res.line
      rw [HX.out, votS, if_pos (show 0 < a by omega)]
      show Ending.returned (Value.string _) = _
      refine congrArg Ending.returned (congrArg Value.string ?_)
      first
        | (rw [show (⟨#[44, 32, 97, 100, 111, 112, 116, 101, 100]⟩ : ByteArray) = (⟨#[44, 32]⟩ : ByteArray) ++ (⟨#[97, 100, 111, 112, 116, 101, 100]⟩ : ByteArray) from rfl]; simp only [ByteArray.append_assoc]; rfl)
        | (rw [show (⟨#[44, 32, 114, 101, 106, 101, 99, 116, 101, 100]⟩ : ByteArray) = (⟨#[44, 32]⟩ : ByteArray) ++ (⟨#[114, 101, 106, 101, 99, 116, 101, 100]⟩ : ByteArray) from rfl]; simp only [ByteArray.append_assoc]; rfl)
  · rcases hc with rfl | rfl | rfl <;> rcases had with rfl | rfl
    all_goals
      clear hnd
      go_enter Tryz.func43, Tryz.ntmps43
      go_wp2
      refine wp_region_kin (by kernel_rfl) (by kernel_rfl) ?_
      repeat (go_big_quiet_step ((first | (go_at_call 92; exact Kin.call _ (by first | exact Nat.le_refl _ | omega) (l1Num_is _ (by omega) (by omega) _)))))
      refine wpQuiet_nil ?_
      intro K
      have hq1 : Below w.heap.size w K.world := bth (by repeat (first | exact Below.refl _ _ | refine Below.alloc ?_ (by first | exact Nat.le_refl _ | (simp <;> omega)) _ | refine Below.setCell ?_ (by first | exact Nat.le_refl _ | (simp <;> omega)) _)) K.below
      have HB : Below w.heap.size w K.world := hq1
      have hA : Blk K.world (w.heap.size) 27 #[.string m, .int .i64 _, .int .i64 y, .int .i64 n, .int .i64 a] := Blk.below (by repeat (first | exact Blk.new _ _ _ | exact Blk.new2 _ _ _ _ | exact Blk.new3 _ _ _ _ _ | exact Blk.new4 _ _ _ _ _ _ | refine Blk.alloc ?_ _)) K.below (by simp <;> omega)
      have c0 := (hA.cell 0).trans (show _ = some (.string m) from rfl)
      have c1 := (hA.cell 1).trans (show _ = some (.int .i64 _) from rfl)
      have c2 := (hA.cell 2).trans (show _ = some (.int .i64 y) from rfl)
      have c3 := (hA.cell 3).trans (show _ = some (.int .i64 n) from rfl)
      have c4 := (hA.cell 4).trans (show _ = some (.int .i64 a) from rfl)
      clear b0 b1 b2 b3 b4
      have yhA := hA.lt
      go_wp2_with fail
      refine (l26Adopted_is m _ y n a ⟨by omega, by omega, by omega, by omega⟩ _ HA.out _).mono ?_
      rintro e w2 ⟨rfl, hb2⟩
      have hq2 : Below K.world.heap.size K.world w2 := bth (by repeat (first | exact Below.refl _ _ | refine Below.alloc ?_ (by first | exact Nat.le_refl _ | (simp <;> omega)) _ | refine Below.setCell ?_ (by first | exact Nat.le_refl _ | (simp <;> omega)) _)) hb2
      replace HB := bth HB hq2
      replace hA := hA.below hq2 hA.lt
      replace c0 := (hA.cell 0).trans (show _ = some (.string m) from rfl)
      replace c1 := (hA.cell 1).trans (show _ = some (.int .i64 _) from rfl)
      replace c2 := (hA.cell 2).trans (show _ = some (.int .i64 y) from rfl)
      replace c3 := (hA.cell 3).trans (show _ = some (.int .i64 n) from rfl)
      replace c4 := (hA.cell 4).trans (show _ = some (.int .i64 a) from rfl)
      go_wp2
      go_ret
      refine ⟨?_, (bth HB (by repeat (first | exact Below.refl _ _ | refine Below.alloc ?_ (by first | exact Nat.le_refl _ | (simp <;> omega)) _ | refine Below.setCell ?_ (by first | exact Nat.le_refl _ | (simp <;> omega)) _)))⟩
      unfold Res.line
      rw [HX.out, votS, if_neg (show ¬ 0 < a by omega)]
      show Ending.returned (Value.string _) = _
      refine congrArg Ending.returned (congrArg Value.string ?_)
      first
        | (rw [show (⟨#[44, 32, 97, 100, 111, 112, 116, 101, 100]⟩ : ByteArray) = (⟨#[44, 32]⟩ : ByteArray) ++ (⟨#[97, 100, 111, 112, 116, 101, 100]⟩ : ByteArray) from rfl]; simp only [ByteArray.append_assoc]; rfl)
        | (rw [show (⟨#[44, 32, 114, 101, 106, 101, 99, 116, 101, 100]⟩ : ByteArray) = (⟨#[44, 32]⟩ : ByteArray) ++ (⟨#[114, 101, 106, 101, 99, 116, 101, 100]⟩ : ByteArray) from rfl]; simp only [ByteArray.append_assoc]; rfl)
end Go.Proofs.YtbnncgahepcfnaaGreatDoor
/- Reports as texts; headlines. -/
namespace Go.Proofs.YtbnncgahepcfnaaGreatDoor
open Go.RowKit Go.G9
def repTo (xs : List Res) : Nat → ByteArray
  | 0 => ⟨#[]⟩
  | k + 1 => match xs[k]? with | some r => repTo xs k ++ (r.line ++ (⟨#[10]⟩ : ByteArray)) | none => repTo xs k
def repTxt (xs : List Res) : ByteArray := repTo xs xs.length
theorem repTo_size {xs : List Res} (h : reportB xs = true) : ∀ k, (repTo xs k).size ≤ 111 * k
  | 0 => Nat.le_refl _
  | k + 1 => by
    have ih := repTo_size h k
    unfold repTo
    split
    · rename_i r hr
      have := Res.line_size r (reportB_at h hr)
      have e : ((⟨#[10]⟩ : ByteArray)).size = 1 := rfl
      simp only [ByteArray.size_append]; omega
    · omega
def TabP (w : World) : Prop := Tab w ∧ Phr w
theorem TabP.below {w w' : World} (h : TabP w) (hb : Below w.heap.size w w') : TabP w' := ⟨h.1.below hb, h.2.below hb⟩
def olOut (r : Res) : Value := if resB r then .tuple #[.string r.line, .bool true] else .tuple #[.string ⟨#[]⟩, .bool false]
theorem olOut_form (r : Res) : ∃ s b, olOut r = .tuple #[.string s, .bool b] := by unfold olOut; split <;> exact ⟨_, _, rfl⟩
theorem iOutcomeLine_is (r : Res) (v : Value) (hv : olOut r = v) (w : World) (hT : TabP w) : Calls Tryz.prog 7 #[.agg #[.string r.motion, .int .i64 r.need, .int .i64 r.yes, .int .i64 r.no, .int .i64 r.abst]] w fun e w' => e = .returned v ∧ Below w.heap.size w w' := by
  subst hv
  cases h : resB r
  · go_enter Tryz.func7, Tryz.ntmps7
    go_wp2_with fail
    refine (isResult_is r.motion r.need r.yes r.no r.abst r.ok _ h _).mono ?_
    rintro e w1 ⟨rfl, hb1⟩
    have hq1 : Below w.heap.size w w1 := bth (by repeat (first | exact Below.refl _ _ | refine Below.alloc ?_ (by first | exact Nat.le_refl _ | (simp <;> omega)) _ | refine Below.setCell ?_ (by first | exact Nat.le_refl _ | (simp <;> omega)) _)) hb1
    have HB : Below w.heap.size w w1 := hq1
    go_wp2
    go_ret2
    exact ⟨by simp [olOut, h], (bth HB (by repeat (first | exact Below.refl _ _ | refine Below.alloc ?_ (by first | exact Nat.le_refl _ | (simp <;> omega)) _ | refine Below.setCell ?_ (by first | exact Nat.le_refl _ | (simp <;> omega)) _)))⟩
  · go_enter Tryz.func7, Tryz.ntmps7
    go_wp2_with fail
    refine (isResult_is r.motion r.need r.yes r.no r.abst r.ok _ h _).mono ?_
    rintro e w1 ⟨rfl, hb1⟩
    have hq1 : Below w.heap.size w w1 := bth (by repeat (first | exact Below.refl _ _ | refine Below.alloc ?_ (by first | exact Nat.le_refl _ | (simp <;> omega)) _ | refine Below.setCell ?_ (by first | exact Nat.le_refl _ | (simp <;> omega)) _)) hb1
    have HB : Below w.heap.size w w1 := hq1
    have hA : Blk w1 (w.heap.size) 27 #[.string r.motion, .int .i64 r.need, .int .i64 r.yes, .int .i64 r.no, .int .i64 r.abst] := Blk.below (by repeat (first | exact Blk.new _ _ _ | exact Blk.new2 _ _ _ _ | exact Blk.new3 _ _ _ _ _ | exact Blk.new4 _ _ _ _ _ _ | refine Blk.alloc ?_ _)) hb1 (by simp <;> omega)
    have a0 := (hA.cell 0).trans (show _ = some (.string r.motion) from rfl)
    have a1 := (hA.cell 1).trans (show _ = some (.int .i64 r.need) from rfl)
    have a2 := (hA.cell 2).trans (show _ = some (.int .i64 r.yes) from rfl)
    have a3 := (hA.cell 3).trans (show _ = some (.int .i64 r.no) from rfl)
    have a4 := (hA.cell 4).trans (show _ = some (.int .i64 r.abst) from rfl)
    go_wp2_with fail
    refine (outcomeLine_is r h _ (hT.1.below HB) (hT.2.below HB)).mono ?_
    rintro e w2 ⟨rfl, hb2⟩
    have hq2 : Below w1.heap.size w1 w2 := bth (by repeat (first | exact Below.refl _ _ | refine Below.alloc ?_ (by first | exact Nat.le_refl _ | (simp <;> omega)) _ | refine Below.setCell ?_ (by first | exact Nat.le_refl _ | (simp <;> omega)) _)) hb2
    replace HB := bth HB hq2
    replace hA := hA.below hq2 hA.lt
    replace a0 := (hA.cell 0).trans (show _ = some (.string r.motion) from rfl)
    replace a1 := (hA.cell 1).trans (show _ = some (.int .i64 r.need) from rfl)
    replace a2 := (hA.cell 2).trans (show _ = some (.int .i64 r.yes) from rfl)
    replace a3 := (hA.cell 3).trans (show _ = some (.int .i64 r.no) from rfl)
    replace a4 := (hA.cell 4).trans (show _ = some (.int .i64 r.abst) from rfl)
    go_wp2
    go_ret2
    exact ⟨by simp [olOut, h], (bth HB (by repeat (first | exact Below.refl _ _ | refine Below.alloc ?_ (by first | exact Nat.le_refl _ | (simp <;> omega)) _ | refine Below.setCell ?_ (by first | exact Nat.le_refl _ | (simp <;> omega)) _)))⟩
theorem sOutcomeLine_is (r : Res) (v : Value) (hv : olOut r = v) (w : World) : Calls Tryz.prog 8 #[.agg #[.string r.motion, .int .i64 r.need, .int .i64 r.yes, .int .i64 r.no, .int .i64 r.abst]] w fun e w' => e = .returned v ∧ Below w.heap.size w w' := by
  subst hv
  cases h : resB r
  · go_enter Tryz.func8, Tryz.ntmps8
    go_wp2_with fail
    refine (l26One_is r.motion r.need r.yes r.no r.abst r.ok _ h _).mono ?_
    rintro e w1 ⟨rfl, hb1⟩
    have hq1 : Below w.heap.size w w1 := bth (by repeat (first | exact Below.refl _ _ | refine Below.alloc ?_ (by first | exact Nat.le_refl _ | (simp <;> omega)) _ | refine Below.setCell ?_ (by first | exact Nat.le_refl _ | (simp <;> omega)) _)) hb1
    have HB : Below w.heap.size w w1 := hq1
    go_wp2
    go_ret2
    exact ⟨by simp [olOut, h], (bth HB (by repeat (first | exact Below.refl _ _ | refine Below.alloc ?_ (by first | exact Nat.le_refl _ | (simp <;> omega)) _ | refine Below.setCell ?_ (by first | exact Nat.le_refl _ | (simp <;> omega)) _)))⟩
  · go_enter Tryz.func8, Tryz.ntmps8
    go_wp2_with fail
    refine (l26One_is r.motion r.need r.yes r.no r.abst r.ok _ h _).mono ?_
    rintro e w1 ⟨rfl, hb1⟩
    have hq1 : Below w.heap.size w w1 := bth (by repeat (first | exact Below.refl _ _ | refine Below.alloc ?_ (by first | exact Nat.le_refl _ | (simp <;> omega)) _ | refine Below.setCell ?_ (by first | exact Nat.le_refl _ | (simp <;> omega)) _)) hb1
    have HB : Below w.heap.size w w1 := hq1
    have hA : Blk w1 (w.heap.size) 27 #[.string r.motion, .int .i64 r.need, .int .i64 r.yes, .int .i64 r.no, .int .i64 r.abst] := Blk.below (by repeat (first | exact Blk.new _ _ _ | exact Blk.new2 _ _ _ _ | exact Blk.new3 _ _ _ _ _ | exact Blk.new4 _ _ _ _ _ _ | refine Blk.alloc ?_ _)) hb1 (by simp <;> omega)
    have a0 := (hA.cell 0).trans (show _ = some (.string r.motion) from rfl)
    have a1 := (hA.cell 1).trans (show _ = some (.int .i64 r.need) from rfl)
    have a2 := (hA.cell 2).trans (show _ = some (.int .i64 r.yes) from rfl)
    have a3 := (hA.cell 3).trans (show _ = some (.int .i64 r.no) from rfl)
    have a4 := (hA.cell 4).trans (show _ = some (.int .i64 r.abst) from rfl)
    go_wp2_with fail
    refine (l26Line_is r h _).mono ?_
    rintro e w2 ⟨rfl, hb2⟩
    have hq2 : Below w1.heap.size w1 w2 := bth (by repeat (first | exact Below.refl _ _ | refine Below.alloc ?_ (by first | exact Nat.le_refl _ | (simp <;> omega)) _ | refine Below.setCell ?_ (by first | exact Nat.le_refl _ | (simp <;> omega)) _)) hb2
    replace HB := bth HB hq2
    replace hA := hA.below hq2 hA.lt
    replace a0 := (hA.cell 0).trans (show _ = some (.string r.motion) from rfl)
    replace a1 := (hA.cell 1).trans (show _ = some (.int .i64 r.need) from rfl)
    replace a2 := (hA.cell 2).trans (show _ = some (.int .i64 r.yes) from rfl)
    replace a3 := (hA.cell 3).trans (show _ = some (.int .i64 r.no) from rfl)
    replace a4 := (hA.cell 4).trans (show _ = some (.int .i64 r.abst) from rfl)
    go_wp2
    go_ret2
    exact ⟨by simp [olOut, h], (bth HB (by repeat (first | exact Below.refl _ _ | refine Below.alloc ?_ (by first | exact Nat.le_refl _ | (simp <;> omega)) _ | refine Below.setCell ?_ (by first | exact Nat.le_refl _ | (simp <;> omega)) _)))⟩
set_option maxHeartbeats 1000000 in
set_option maxRecDepth 100000 in
theorem reportText_is (A : Option Addr) (c : Nat) (xs : List Res) (hr : reportB xs = true) (w : World) (hR : Rds 5 Res.cells w A xs) (hT : TabP w) :
  Calls Tryz.prog 52 #[.slice A xs.length c] w fun e w' => e = .returned (.string (repTxt xs)) ∧ Below w.heap.size w w' := by
  have hl := reportB_len hr
  go_enter Tryz.func52, Tryz.ntmps52
  go_wp2
  go_loopw [3, 8] (fun t i wr => ∃ k : Nat, k ≤ xs.length ∧ i = .int .i64 k ∧ t = .string (repTo xs k) ∧ Below w.heap.size w wr) (fun _ i _ => xs.length - (intOf i).toNat)
  case atStart => exact ⟨0, Nat.zero_le _, rfl, rfl, Below.refl _ _⟩
  case round =>
    obtain ⟨k, hk, rfl, rfl, hb⟩ := hrel
    by_cases hlt : k < xs.length
    · obtain ⟨b, off, x, rfl, hbl, hx, hcx⟩ := hR.at_ hb hlt
      have hv := reportB_at hr hx
      have hstep : repTo xs (k + 1) = repTo xs k ++ (x.line ++ (⟨#[10]⟩ : ByteArray)) := by rw [repTo, hx]
      have HS := Lib.hid hstep; clear hstep hx
      have hsz := repTo_size hr k
      have hls := x.line_size hv
      have f0 := hcx 0 _ rfl
      have f1 := hcx 1 _ rfl
      have f2 := hcx 2 _ rfl
      have f3 := hcx 3 _ rfl
      have f4 := hcx 4 _ rfl
      simp only [Nat.add_zero] at f0
      have g0 := f0 (Kin.self _)
      have g1 := f1 (Kin.self _)
      have g2 := f2 (Kin.self _)
      have g3 := f3 (Kin.self _)
      have g4 := f4 (Kin.self _)
      simp only [Kin.self] at g0
      simp only [Kin.self] at g1
      simp only [Kin.self] at g2
      simp only [Kin.self] at g3
      simp only [Kin.self] at g4
      clear hcx f0 f1 f2 f3 f4
      have HV := Lib.hid hv; clear hv
      go_wp2_with fail
      refine (outcomeLine_is x HV.out _ ((hT.1.below hb).below (bl1 _ _)) ((hT.2.below hb).below (bl1 _ _))).mono ?_
      rintro e w2 ⟨rfl, hb2⟩
      go_wp2
      go_roundw
      case rel => exact ⟨k + 1, by omega, by go_num, by rw [HS.out], bth hb (bth (bl1 _ _) hb2)⟩
      case measure => simp [intOf]; omega
    · obtain rfl : k = xs.length := by omega
      go_wp2
      go_ret
      exact ⟨rfl, hb⟩
def rtOut (xs : List Res) : Value := if reportB xs then .tuple #[.string (repTxt xs), .bool true] else .tuple #[.string ⟨#[]⟩, .bool false]
theorem rtOut_form (xs : List Res) : ∃ s b, rtOut xs = .tuple #[.string s, .bool b] := by unfold rtOut; split <;> exact ⟨_, _, rfl⟩
theorem iReportText_is (A : Option Addr) (c : Nat) (xs : List Res) (hn : xs.length ≤ 1048576) (v : Value) (hv : rtOut xs = v) (w : World) (hR : Rds 5 Res.cells w A xs) (hT : TabP w) :
  Calls Tryz.prog 13 #[.slice A xs.length c] w fun e w' => e = .returned v ∧ Below w.heap.size w w' := by
  subst hv
  cases h : reportB xs
  · go_enter Tryz.func13, Tryz.ntmps13
    go_wp2_with fail
    refine (isReport_is A c xs hn _ h _ (hR.below (by repeat (first | exact Below.refl _ _ | refine Below.alloc ?_ (by first | exact Nat.le_refl _ | (simp <;> omega)) _ | refine Below.setCell ?_ (by first | exact Nat.le_refl _ | (simp <;> omega)) _)))).mono ?_
    rintro e w1 ⟨rfl, hb1⟩
    have hq1 : Below w.heap.size w w1 := bth (by repeat (first | exact Below.refl _ _ | refine Below.alloc ?_ (by first | exact Nat.le_refl _ | (simp <;> omega)) _ | refine Below.setCell ?_ (by first | exact Nat.le_refl _ | (simp <;> omega)) _)) hb1
    have HB : Below w.heap.size w w1 := hq1
    go_wp2
    go_ret2
    exact ⟨by simp [rtOut, h], (bth HB (by repeat (first | exact Below.refl _ _ | refine Below.alloc ?_ (by first | exact Nat.le_refl _ | (simp <;> omega)) _ | refine Below.setCell ?_ (by first | exact Nat.le_refl _ | (simp <;> omega)) _)))⟩
  · go_enter Tryz.func13, Tryz.ntmps13
    go_wp2_with fail
    refine (isReport_is A c xs hn _ h _ (hR.below (by repeat (first | exact Below.refl _ _ | refine Below.alloc ?_ (by first | exact Nat.le_refl _ | (simp <;> omega)) _ | refine Below.setCell ?_ (by first | exact Nat.le_refl _ | (simp <;> omega)) _)))).mono ?_
    rintro e w1 ⟨rfl, hb1⟩
    have hq1 : Below w.heap.size w w1 := bth (by repeat (first | exact Below.refl _ _ | refine Below.alloc ?_ (by first | exact Nat.le_refl _ | (simp <;> omega)) _ | refine Below.setCell ?_ (by first | exact Nat.le_refl _ | (simp <;> omega)) _)) hb1
    have HB : Below w.heap.size w w1 := hq1
    go_wp2_with fail
    refine (reportText_is A c xs h _ (hR.below HB) (hT.below HB)).mono ?_
    rintro e w2 ⟨rfl, hb2⟩
    have hq2 : Below w1.heap.size w1 w2 := bth (by repeat (first | exact Below.refl _ _ | refine Below.alloc ?_ (by first | exact Nat.le_refl _ | (simp <;> omega)) _ | refine Below.setCell ?_ (by first | exact Nat.le_refl _ | (simp <;> omega)) _)) hb2
    replace HB := bth HB hq2
    go_wp2
    go_ret2
    exact ⟨by simp [rtOut, h], (bth HB (by repeat (first | exact Below.refl _ _ | refine Below.alloc ?_ (by first | exact Nat.le_refl _ | (simp <;> omega)) _ | refine Below.setCell ?_ (by first | exact Nat.le_refl _ | (simp <;> omega)) _)))⟩
set_option maxHeartbeats 1000000 in
set_option maxRecDepth 100000 in
theorem sReportText_is (A : Option Addr) (c : Nat) (xs : List Res) (hn : xs.length ≤ 1048576) (v : Value) (hv : rtOut xs = v) (w : World) (hR : Rds 5 Res.cells w A xs) :
  Calls Tryz.prog 14 #[.slice A xs.length c] w fun e w' => e = .returned v ∧ Below w.heap.size w w' := by
  subst hv
  cases hr : reportB xs
  · go_enter Tryz.func14, Tryz.ntmps14
    go_wp2_with fail
    refine (l26Good_is A c xs hn _ hr _ (hR.below (by repeat (first | exact Below.refl _ _ | refine Below.alloc ?_ (by first | exact Nat.le_refl _ | (simp <;> omega)) _ | refine Below.setCell ?_ (by first | exact Nat.le_refl _ | (simp <;> omega)) _)))).mono ?_
    rintro e w1 ⟨rfl, hb1⟩
    have hq1 : Below w.heap.size w w1 := bth (by repeat (first | exact Below.refl _ _ | refine Below.alloc ?_ (by first | exact Nat.le_refl _ | (simp <;> omega)) _ | refine Below.setCell ?_ (by first | exact Nat.le_refl _ | (simp <;> omega)) _)) hb1
    have HB : Below w.heap.size w w1 := hq1
    go_wp2
    go_ret2
    exact ⟨by simp [rtOut, hr], (bth HB (by repeat (first | exact Below.refl _ _ | refine Below.alloc ?_ (by first | exact Nat.le_refl _ | (simp <;> omega)) _ | refine Below.setCell ?_ (by first | exact Nat.le_refl _ | (simp <;> omega)) _)))⟩
  have hl := reportB_len hr
  go_enter Tryz.func14, Tryz.ntmps14
  go_wp2_with fail
  refine (l26Good_is A c xs hn _ hr _ (hR.below (by repeat (first | exact Below.refl _ _ | refine Below.alloc ?_ (by first | exact Nat.le_refl _ | (simp <;> omega)) _ | refine Below.setCell ?_ (by first | exact Nat.le_refl _ | (simp <;> omega)) _)))).mono ?_
  rintro e w1 ⟨rfl, hb1⟩
  have hq1 : Below w.heap.size w w1 := bth (by repeat (first | exact Below.refl _ _ | refine Below.alloc ?_ (by first | exact Nat.le_refl _ | (simp <;> omega)) _ | refine Below.setCell ?_ (by first | exact Nat.le_refl _ | (simp <;> omega)) _)) hb1
  have HB : Below w.heap.size w w1 := hq1
  go_wp2
  go_loopw [4, 5] (fun t i wr => ∃ k : Nat, k ≤ xs.length ∧ i = .int .i64 k ∧ t = .string (repTo xs k) ∧ Below w1.heap.size w1 wr) (fun _ i _ => xs.length - (intOf i).toNat)
  case atStart => exact ⟨0, Nat.zero_le _, rfl, rfl, Below.refl _ _⟩
  case round =>
    obtain ⟨k, hk, rfl, rfl, hb⟩ := hrel
    by_cases hlt : k < xs.length
    · obtain ⟨b, off, x, rfl, hbl, hx, hcx⟩ := hR.at_ (bth HB hb) hlt
      have hv := reportB_at hr hx
      have hstep : repTo xs (k + 1) = repTo xs k ++ (x.line ++ (⟨#[10]⟩ : ByteArray)) := by rw [repTo, hx]
      have HS := Lib.hid hstep; clear hstep hx
      have hsz := repTo_size hr k
      have hls := x.line_size hv
      have f0 := hcx 0 _ rfl
      have f1 := hcx 1 _ rfl
      have f2 := hcx 2 _ rfl
      have f3 := hcx 3 _ rfl
      have f4 := hcx 4 _ rfl
      simp only [Nat.add_zero] at f0
      have g0 := f0 (Kin.self _)
      have g1 := f1 (Kin.self _)
      have g2 := f2 (Kin.self _)
      have g3 := f3 (Kin.self _)
      have g4 := f4 (Kin.self _)
      simp only [Kin.self] at g0
      simp only [Kin.self] at g1
      simp only [Kin.self] at g2
      simp only [Kin.self] at g3
      simp only [Kin.self] at g4
      clear hcx f0 f1 f2 f3 f4
      have HV := Lib.hid hv; clear hv
      go_wp2_with fail
      refine (l26Line_is x HV.out _).mono ?_
      rintro e w2 ⟨rfl, hb2⟩
      go_wp2
      go_roundw
      case rel => exact ⟨k + 1, by omega, by go_num, by rw [HS.out, ByteArray.append_assoc], bth hb hb2⟩
      case measure => simp [intOf]; omega
    · obtain rfl : k = xs.length := by omega
      go_wp2
      go_ret2
      exact ⟨by simp [rtOut, hr, repTxt], bth HB hb⟩
end Go.Proofs.YtbnncgahepcfnaaGreatDoor
