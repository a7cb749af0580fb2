/- The text of a notice. -/
import Derived.Test.YthgaddnbgnennaaDoorItoa
import Derived.Test.YthgaddnbgnennaaDoorNtc
namespace Go.Proofs.YthgaddnbgnennaaDoor
open Go.RowKit Go.G9
def Ntc.head (n : Ntc) : ByteArray := (⟨#[110, 111, 116, 105, 99, 101, 32]⟩ : ByteArray) ++ numS n.id ++ (⟨#[58, 32]⟩ : ByteArray) ++ n.topic ++ (⟨#[32, 103, 105, 118, 101, 110, 32, 111, 110, 32, 100, 97, 121, 32]⟩ : ByteArray) ++ numS n.given ++ (⟨#[44, 32]⟩ : ByteArray) ++ numS n.days
def Ntc.txt (n : Ntc) : ByteArray := if n.days = 1 then n.head ++ (⟨#[32, 100, 97, 121]⟩ : ByteArray) else n.head ++ (⟨#[32, 100, 97, 121, 115]⟩ : ByteArray)
theorem noticeB_bd {n : Ntc} (h : noticeB n = true) : 1 ≤ n.id ∧ n.id ≤ 99 ∧ n.topic.size ≤ 10 ∧ 0 ≤ n.given ∧ n.given ≤ 3650 ∧ 0 ≤ n.days ∧ n.days ≤ 60 := by
  simp [noticeB, wordB, inB] at h
  omega
set_option maxHeartbeats 1000000 in
theorem noticeText_is (id g d : Int) (s : ByteArray) (hs : s.size ≤ maxLen) (hv : noticeB ⟨id, s, g, d, hs⟩ = true) (w : World) (hT : Tab w) :
  Calls Tryd.prog 33 #[.agg #[.int .i64 id, .string s, .int .i64 g, .int .i64 d]] w fun e w' => e = .returned (.string (Ntc.txt ⟨id, s, g, d, hs⟩)) ∧ Below w.heap.size w w' := by
  obtain ⟨h1, h2, h3, h4, h5, h6, h7⟩ := noticeB_bd hv
  simp only at h1 h2 h3 h4 h5 h6 h7
  clear hv
  have HT := Lib.hid (hT.below (bl1 w (.cells #[.int .i64 id, .string s, .int .i64 g, .int .i64 d] 27)))
  have n1 := numS_size id (by omega)
  have n2 := numS_size g (by omega)
  have n3 := numS_size d (by omega)
  have b0 := boxed w #[.int .i64 id, .string s, .int .i64 g, .int .i64 d] 27 0 _ rfl
  have b1 := boxed w #[.int .i64 id, .string s, .int .i64 g, .int .i64 d] 27 1 _ rfl
  have b2 := boxed w #[.int .i64 id, .string s, .int .i64 g, .int .i64 d] 27 2 _ rfl
  have b3 := boxed w #[.int .i64 id, .string s, .int .i64 g, .int .i64 d] 27 3 _ rfl
  by_cases hd : d = 1
  · have hd1 : (d == 1) = true := beq_iff_eq.2 hd
    have HD := Lib.hid hd; clear hd
    go_enter Tryd.func33, Tryd.ntmps33
    go_wp2
    refine wp_region_kin (by kernel_rfl) (by kernel_rfl) ?_
    repeat (go_big_quiet_step ((first | (go_at_call 40; exact Kin.call _ (by first | exact Nat.le_refl _ | omega) (itoa_is _ (by omega) (by omega) _ (HT.out.below (Kin.below _)))))))
    refine wpQuiet_nil ?_
    intro K
    have c3 := b3 K
    go_wp2
    go_ret
    exact ⟨by rw [Ntc.txt, if_pos HD.out]; rfl, bth (bl1 _ _) K.below⟩
  · have hd1 : (d == 1) = false := beq_eq_false_iff_ne.2 hd
    have HD := Lib.hid hd; clear hd
    go_enter Tryd.func33, Tryd.ntmps33
    go_wp2
    refine wp_region_kin (by kernel_rfl) (by kernel_rfl) ?_
    repeat (go_big_quiet_step ((first | (go_at_call 40; exact Kin.call _ (by first | exact Nat.le_refl _ | omega) (itoa_is _ (by omega) (by omega) _ (HT.out.below (Kin.below _)))))))
    refine wpQuiet_nil ?_
    intro K
    have c3 := b3 K
    go_wp2
    go_ret
    refine ⟨?_, bth (bl1 _ _) K.below⟩
    show Ending.returned (Value.string (Ntc.head ⟨id, s, g, d, hs⟩ ++ (⟨#[32, 100, 97, 121]⟩ : ByteArray) ++ (⟨#[115]⟩ : ByteArray))) = _
    rw [Ntc.txt, if_neg HD.out, ByteArray.append_assoc]
    rfl
set_option maxHeartbeats 1000000 in
theorem l24Text_is (id g d : Int) (s : ByteArray) (hs : s.size ≤ maxLen) (hv : noticeB ⟨id, s, g, d, hs⟩ = true) (w : World) :
  Calls Tryd.prog 31 #[.agg #[.int .i64 id, .string s, .int .i64 g, .int .i64 d]] w fun e w' => e = .returned (.string (Ntc.txt ⟨id, s, g, d, hs⟩)) ∧ Below w.heap.size w w' := by
  obtain ⟨h1, h2, h3, h4, h5, h6, h7⟩ := noticeB_bd hv
  simp only at h1 h2 h3 h4 h5 h6 h7
  clear hv
  have n1 := numS_size id (by omega)
  have n2 := numS_size g (by omega)
  have n3 := numS_size d (by omega)
  have b0 := boxed w #[.int .i64 id, .string s, .int .i64 g, .int .i64 d] 27 0 _ rfl
  have b1 := boxed w #[.int .i64 id, .string s, .int .i64 g, .int .i64 d] 27 1 _ rfl
  have b2 := boxed w #[.int .i64 id, .string s, .int .i64 g, .int .i64 d] 27 2 _ rfl
  have b3 := boxed w #[.int .i64 id, .string s, .int .i64 g, .int .i64 d] 27 3 _ rfl
  by_cases hd : d = 1
  · have hd1 : (d == 1) = true := beq_iff_eq.2 hd
    have HD := Lib.hid hd; clear hd
    go_enter Tryd.func31, Tryd.ntmps31
    go_wp2
    refine wp_region_kin (by kernel_rfl) (by kernel_rfl) ?_
    repeat (go_big_quiet_step ((first | (go_at_call 37; exact Kin.call _ (by first | exact Nat.le_refl _ | omega) (l1Num_is _ (by omega) (by omega) _)))))
    refine wpQuiet_nil ?_
    intro K
    have c3 := b3 K
    go_wp2
    go_ret
    exact ⟨by rw [Ntc.txt, if_pos HD.out]; rfl, bth (bl1 _ _) K.below⟩
  · have hd1 : (d == 1) = false := beq_eq_false_iff_ne.2 hd
    have HD := Lib.hid hd; clear hd
    go_enter Tryd.func31, Tryd.ntmps31
    go_wp2
    refine wp_region_kin (by kernel_rfl) (by kernel_rfl) ?_
    repeat (go_big_quiet_step ((first | (go_at_call 37; exact Kin.call _ (by first | exact Nat.le_refl _ | omega) (l1Num_is _ (by omega) (by omega) _)))))
    refine wpQuiet_nil ?_
    intro K
    have c3 := b3 K
    go_wp2
    go_ret
    exact ⟨by rw [Ntc.txt, if_neg HD.out]; rfl, bth (bl1 _ _) K.below⟩
def ntOut (n : Ntc) : Value := if noticeB n then .tuple #[.string n.txt, .bool true] else .tuple #[.string ⟨#[]⟩, .bool false]
theorem ntOut_form (n : Ntc) : ∃ s b, ntOut n = .tuple #[.string s, .bool b] := by unfold ntOut; split <;> exact ⟨_, _, rfl⟩
theorem iNoticeText_is (n : Ntc) (v : Value) (hv : ntOut n = v) (w : World) (hT : Tab w) :
  Calls Tryd.prog 9 #[.agg #[.int .i64 n.id, .string n.topic, .int .i64 n.given, .int .i64 n.days]] w fun e w' => e = .returned v ∧ Below w.heap.size w w' := by
  subst hv
  obtain ⟨id, s, g, d, hs⟩ := n
  cases h : noticeB ⟨id, s, g, d, hs⟩
  · go_enter Tryd.func9, Tryd.ntmps9
    go_wp2_with fail
    refine (isNotice_is id g d s hs _ h _).mono ?_
    rintro e w1 ⟨rfl, hb1⟩
    have hq1 : Below w.heap.size w w1 := bth (by repeat (first | exact Below.refl _ _ | refine Below.alloc ?_ (by first | exact Nat.le_refl _ | (simp <;> omega)) _ | refine Below.setCell ?_ (by first | exact Nat.le_refl _ | (simp <;> omega)) _)) hb1
    have HB : Below w.heap.size w w1 := hq1
    go_wp2
    go_ret2
    exact ⟨by simp [ntOut, h], (bth HB (by repeat (first | exact Below.refl _ _ | refine Below.alloc ?_ (by first | exact Nat.le_refl _ | (simp <;> omega)) _ | refine Below.setCell ?_ (by first | exact Nat.le_refl _ | (simp <;> omega)) _)))⟩
  · go_enter Tryd.func9, Tryd.ntmps9
    go_wp2_with fail
    refine (isNotice_is id g d s hs _ h _).mono ?_
    rintro e w1 ⟨rfl, hb1⟩
    have hq1 : Below w.heap.size w w1 := bth (by repeat (first | exact Below.refl _ _ | refine Below.alloc ?_ (by first | exact Nat.le_refl _ | (simp <;> omega)) _ | refine Below.setCell ?_ (by first | exact Nat.le_refl _ | (simp <;> omega)) _)) hb1
    have HB : Below w.heap.size w w1 := hq1
    have hA : Blk w1 (w.heap.size) 27 #[.int .i64 id, .string s, .int .i64 g, .int .i64 d] := Blk.below (by repeat (first | exact Blk.new _ _ _ | refine Blk.alloc ?_ _)) hb1 (by simp <;> omega)
    have a0 := (hA.cell 0).trans (show _ = some (.int .i64 id) from rfl)
    have a1 := (hA.cell 1).trans (show _ = some (.string s) from rfl)
    have a2 := (hA.cell 2).trans (show _ = some (.int .i64 g) from rfl)
    have a3 := (hA.cell 3).trans (show _ = some (.int .i64 d) from rfl)
    go_wp2_with fail
    refine (noticeText_is id g d s hs h _ (hT.below HB)).mono ?_
    rintro e w2 ⟨rfl, hb2⟩
    have hq2 : Below w1.heap.size w1 w2 := bth (by repeat (first | exact Below.refl _ _ | refine Below.alloc ?_ (by first | exact Nat.le_refl _ | (simp <;> omega)) _ | refine Below.setCell ?_ (by first | exact Nat.le_refl _ | (simp <;> omega)) _)) hb2
    replace HB := bth HB hq2
    replace hA := hA.below hq2 hA.lt
    replace a0 := (hA.cell 0).trans (show _ = some (.int .i64 id) from rfl)
    replace a1 := (hA.cell 1).trans (show _ = some (.string s) from rfl)
    replace a2 := (hA.cell 2).trans (show _ = some (.int .i64 g) from rfl)
    replace a3 := (hA.cell 3).trans (show _ = some (.int .i64 d) from rfl)
    go_wp2
    go_ret2
    exact ⟨by simp [ntOut, h], (bth HB (by repeat (first | exact Below.refl _ _ | refine Below.alloc ?_ (by first | exact Nat.le_refl _ | (simp <;> omega)) _ | refine Below.setCell ?_ (by first | exact Nat.le_refl _ | (simp <;> omega)) _)))⟩
theorem sNoticeText_is (n : Ntc) (v : Value) (hv : ntOut n = v) (w : World) :
  Calls Tryd.prog 7 #[.agg #[.int .i64 n.id, .string n.topic, .int .i64 n.given, .int .i64 n.days]] w fun e w' => e = .returned v ∧ Below w.heap.size w w' := by
  subst hv
  obtain ⟨id, s, g, d, hs⟩ := n
  cases h : noticeB ⟨id, s, g, d, hs⟩
  · go_enter Tryd.func7, Tryd.ntmps7
    go_wp2_with fail
    refine (l24One_is id g d s hs _ h _).mono ?_
    rintro e w1 ⟨rfl, hb1⟩
    have hq1 : Below w.heap.size w w1 := bth (by repeat (first | exact Below.refl _ _ | refine Below.alloc ?_ (by first | exact Nat.le_refl _ | (simp <;> omega)) _ | refine Below.setCell ?_ (by first | exact Nat.le_refl _ | (simp <;> omega)) _)) hb1
    have HB : Below w.heap.size w w1 := hq1
    go_wp2
    go_ret2
    exact ⟨by simp [ntOut, h], (bth HB (by repeat (first | exact Below.refl _ _ | refine Below.alloc ?_ (by first | exact Nat.le_refl _ | (simp <;> omega)) _ | refine Below.setCell ?_ (by first | exact Nat.le_refl _ | (simp <;> omega)) _)))⟩
  · go_enter Tryd.func7, Tryd.ntmps7
    go_wp2_with fail
    refine (l24One_is id g d s hs _ h _).mono ?_
    rintro e w1 ⟨rfl, hb1⟩
    have hq1 : Below w.heap.size w w1 := bth (by repeat (first | exact Below.refl _ _ | refine Below.alloc ?_ (by first | exact Nat.le_refl _ | (simp <;> omega)) _ | refine Below.setCell ?_ (by first | exact Nat.le_refl _ | (simp <;> omega)) _)) hb1
    have HB : Below w.heap.size w w1 := hq1
    have hA : Blk w1 (w.heap.size) 27 #[.int .i64 id, .string s, .int .i64 g, .int .i64 d] := Blk.below (by repeat (first | exact Blk.new _ _ _ | refine Blk.alloc ?_ _)) hb1 (by simp <;> omega)
    have a0 := (hA.cell 0).trans (show _ = some (.int .i64 id) from rfl)
    have a1 := (hA.cell 1).trans (show _ = some (.string s) from rfl)
    have a2 := (hA.cell 2).trans (show _ = some (.int .i64 g) from rfl)
    have a3 := (hA.cell 3).trans (show _ = some (.int .i64 d) from rfl)
    go_wp2_with fail
    refine (l24Text_is id g d s hs h _).mono ?_
    rintro e w2 ⟨rfl, hb2⟩
    have hq2 : Below w1.heap.size w1 w2 := bth (by repeat (first | exact Below.refl _ _ | refine Below.alloc ?_ (by first | exact Nat.le_refl _ | (simp <;> omega)) _ | refine Below.setCell ?_ (by first | exact Nat.le_refl _ | (simp <;> omega)) _)) hb2
    replace HB := bth HB hq2
    replace hA := hA.below hq2 hA.lt
    replace a0 := (hA.cell 0).trans (show _ = some (.int .i64 id) from rfl)
    replace a1 := (hA.cell 1).trans (show _ = some (.string s) from rfl)
    replace a2 := (hA.cell 2).trans (show _ = some (.int .i64 g) from rfl)
    replace a3 := (hA.cell 3).trans (show _ = some (.int .i64 d) from rfl)
    go_wp2
    go_ret2
    exact ⟨by simp [ntOut, h], (bth HB (by repeat (first | exact Below.refl _ _ | refine Below.alloc ?_ (by first | exact Nat.le_refl _ | (simp <;> omega)) _ | refine Below.setCell ?_ (by first | exact Nat.le_refl _ | (simp <;> omega)) _)))⟩
end Go.Proofs.YthgaddnbgnennaaDoor
