/- A notice read from its text: the reference's own function. -/
import Derived.Test.YtbnncgahepcfnaaGreatDoorNo14
import Derived.Deep.Cut
namespace Go.Proofs.YtbnncgahepcfnaaGreatDoor
open Go.RowKit Go.G9
theorem ba_app_size (a b : ByteArray) : (a ++ b).size = a.size + b.size := by simp
theorem txt_size {n : Ntc} (h : noticeB n = true) : n.txt.size ≤ 70 := by
  obtain ⟨a1, a2, a3, a4, a5, a6, a7⟩ := noticeB_bd h
  have s1 := numS_size n.id (by omega)
  have s2 := numS_size n.given (by omega)
  have s3 := numS_size n.days (by omega)
  have e1 : ((⟨#[110, 111, 116, 105, 99, 101, 32]⟩ : ByteArray) : ByteArray).size = 7 := rfl
  have e2 : ((⟨#[58, 32]⟩ : ByteArray) : ByteArray).size = 2 := rfl
  have e3 : ((⟨#[32, 103, 105, 118, 101, 110, 32, 111, 110, 32, 100, 97, 121, 32]⟩ : ByteArray) : ByteArray).size = 14 := rfl
  have e4 : ((⟨#[44, 32]⟩ : ByteArray) : ByteArray).size = 2 := rfl
  have e5 : ((⟨#[32, 100, 97, 121]⟩ : ByteArray) : ByteArray).size = 4 := rfl
  have e6 : ((⟨#[32, 100, 97, 121, 115]⟩ : ByteArray) : ByteArray).size = 5 := rfl
  unfold Ntc.txt Ntc.head
  split
  · simp only [ba_app_size, e1, e2, e3, e4, e5]; omega
  · simp only [ba_app_size, e1, e2, e3, e4, e6]; omega
theorem numS_pos (v : Int) (h0 : -999999 ≤ v) (h1 : v ≤ 999999) : 1 ≤ (numS v).size := by
  have h := (rd_numS v h0 h1).1
  simp only [rdOk, Bool.and_eq_true, decide_eq_true_eq] at h
  have h2 := h.1
  have h3 : (numS v).data.toList.length = (numS v).size := by simp
  unfold rdTl at h2
  split at h2
  · rw [List.length_tail] at h2; omega
  · omega
theorem cut_app (s : ByteArray) (c : UInt8) {m : Nat} (h : (s ++ ⟨#[c]⟩).size = m + 1) : (s ++ ⟨#[c]⟩).extract 0 m = s := by
  have hm : m = s.size := by
    rw [ba_app_size] at h
    have : (⟨#[c]⟩ : ByteArray).size = 1 := rfl
    omega
  apply ba_ext
  rw [extract_list, app_list, List.drop_zero, hm]
  have h2 : s.data.toList.length = s.size := by simp
  rw [Nat.sub_zero, ← h2, List.take_left]
theorem pn_cuts {s : ByteArray} {n : Ntc} {x1 x2 x6 x7 : ByteArray} (h : isT s n) (h1 : (spB 32 s)[1]? = some x1) (h2 : (spB 32 s)[2]? = some x2) (h6 : (spB 32 s)[6]? = some x6) (h7 : (spB 32 s)[7]? = some x7) :
    2 ≤ x1.size ∧ 2 ≤ x6.size ∧ (∀ m, x1.size = m + 1 → rdOut (x1.extract 0 m) = .tuple #[.int .i64 n.id, .bool true]) ∧ x2 = n.topic ∧ (∀ m, x6.size = m + 1 → rdOut (x6.extract 0 m) = .tuple #[.int .i64 n.given, .bool true]) ∧ rdOut x7 = .tuple #[.int .i64 n.days, .bool true] := by
  have hw := ntc_words n h.1
  rw [h.2] at hw
  obtain ⟨a1, a2, _, a4, a5, a6, a7⟩ := noticeB_bd h.1
  rw [hw] at h1 h2 h6 h7
  simp only [List.getElem?_cons_succ, List.getElem?_cons_zero, Option.some.injEq] at h1 h2 h6 h7
  subst h1 h2 h6 h7
  have p1 := numS_pos n.id (by omega) (by omega)
  have p6 := numS_pos n.given (by omega) (by omega)
  refine ⟨?_, ?_, fun m hm => ?_, rfl, fun m hm => ?_, rdOut_numS _ (by omega) (by omega)⟩
  · rw [ba_app_size]; have : ((⟨#[58]⟩ : ByteArray) : ByteArray).size = 1 := rfl; omega
  · rw [ba_app_size]; have : ((⟨#[44]⟩ : ByteArray) : ByteArray).size = 1 := rfl; omega
  · rw [cut_app _ 58 hm]; exact rdOut_numS _ (by omega) (by omega)
  · rw [cut_app _ 44 hm]; exact rdOut_numS _ (by omega) (by omega)
theorem l1ReadW_is (s : ByteArray) (hs : s.size ≤ maxLen) (v : Int) (b : Bool) (h : rdOut s = .tuple #[.int .i64 v, .bool b]) (w : World) : Calls Tryz.prog 66 #[.string s] w fun e w' => e = .returned (.tuple #[.int .i64 v, .bool b]) ∧ Below w.heap.size w w' := l1ReadV_is s hs v b h w
set_option maxHeartbeats 8000000 in
set_option maxRecDepth 100000 in
theorem sParseNotice_is (s : ByteArray) (hs : s.size ≤ 1048576) (w : World) : Calls Tryz.prog 25 #[.string s] w fun e w' => e = .returned (pnV s) ∧ Below w.heap.size w w' := by
  by_cases h70 : s.size ≤ 70
  case neg =>
    have HNO : Hid (¬ ∃ n, isT s n) := Lib.hid (fun ⟨n, hn⟩ => h70 (by rw [← hn.2]; exact txt_size hn.1))
    go_enter Tryz.func25, Tryz.ntmps25
    go_upto_region 2 with fail
    have hq1 : Below w.heap.size w (World.alloc (World.alloc w (.cells #[.int .i64 0, .string ⟨#[]⟩, .int .i64 0, .int .i64 0] 42)) (.cells #[.int .i64 0, .string ⟨#[]⟩, .int .i64 0, .int .i64 0] 42)) := bl2 w _ _
    have hZ : Blk (World.alloc (World.alloc w (.cells #[.int .i64 0, .string ⟨#[]⟩, .int .i64 0, .int .i64 0] 42)) (.cells #[.int .i64 0, .string ⟨#[]⟩, .int .i64 0, .int .i64 0] 42)) (w.heap.size) 42 #[.int .i64 0, .string ⟨#[]⟩, .int .i64 0, .int .i64 0] := by repeat (first | exact Blk.new _ _ _ | exact Blk.new2 _ _ _ _ | exact Blk.new3 _ _ _ _ _ | exact Blk.new4 _ _ _ _ _ _ | refine Blk.alloc ?_ _)
    have hO : Blk (World.alloc (World.alloc w (.cells #[.int .i64 0, .string ⟨#[]⟩, .int .i64 0, .int .i64 0] 42)) (.cells #[.int .i64 0, .string ⟨#[]⟩, .int .i64 0, .int .i64 0] 42)) (w.heap.size + 1) 42 #[.int .i64 0, .string ⟨#[]⟩, .int .i64 0, .int .i64 0] := by repeat (first | exact Blk.new _ _ _ | exact Blk.new2 _ _ _ _ | exact Blk.new3 _ _ _ _ _ | exact Blk.new4 _ _ _ _ _ _ | refine Blk.alloc ?_ _)
    generalize World.alloc (World.alloc w (.cells #[.int .i64 0, .string ⟨#[]⟩, .int .i64 0, .int .i64 0] 42)) (.cells #[.int .i64 0, .string ⟨#[]⟩, .int .i64 0, .int .i64 0] 42) = wX at *
    have HB := hq1
    have z0 := (hZ.cell 0).trans (show _ = some (.int .i64 0) from rfl)
    have z1 := (hZ.cell 1).trans (show _ = some (.string ⟨#[]⟩) from rfl)
    have z2 := (hZ.cell 2).trans (show _ = some (.int .i64 0) from rfl)
    have z3 := (hZ.cell 3).trans (show _ = some (.int .i64 0) from rfl)
    have o0 := (hO.cell 0).trans (show _ = some (.int .i64 0) from rfl)
    have o1 := (hO.cell 1).trans (show _ = some (.string ⟨#[]⟩) from rfl)
    have o2 := (hO.cell 2).trans (show _ = some (.int .i64 0) from rfl)
    have o3 := (hO.cell 3).trans (show _ = some (.int .i64 0) from rfl)
    have hz0 := hZ.lt
    have ho0 := hO.lt
    go_wp2_with fail
    refine (l1SplitF_is s 32 hs _).mono ?_
    rintro e w2 ⟨A4, c4, rfl, O4, hb2⟩
    have hq2 : Below wX.heap.size wX w2 := bth (by repeat (first | exact Below.refl _ _ | refine Below.alloc ?_ (by first | exact Nat.le_refl _ | (simp <;> omega)) _ | refine Below.setCell ?_ (by first | exact Nat.le_refl _ | (simp <;> omega)) _)) hb2
    replace HB := bth HB hq2
    replace hZ := hZ.below hq2 hZ.lt
    replace z0 := (hZ.cell 0).trans (show _ = some (.int .i64 0) from rfl)
    replace z1 := (hZ.cell 1).trans (show _ = some (.string ⟨#[]⟩) from rfl)
    replace z2 := (hZ.cell 2).trans (show _ = some (.int .i64 0) from rfl)
    replace z3 := (hZ.cell 3).trans (show _ = some (.int .i64 0) from rfl)
    replace hO := hO.below hq2 hO.lt
    replace o0 := (hO.cell 0).trans (show _ = some (.int .i64 0) from rfl)
    replace o1 := (hO.cell 1).trans (show _ = some (.string ⟨#[]⟩) from rfl)
    replace o2 := (hO.cell 2).trans (show _ = some (.int .i64 0) from rfl)
    replace o3 := (hO.cell 3).trans (show _ = some (.int .i64 0) from rfl)
    have Q4 := O4.rds (hf := bC_len)
    clear O4
    have fhZ0 := hZ.frozen 0
    have fhZ1 := hZ.frozen 1
    have fhZ2 := hZ.frozen 2
    have fhZ3 := hZ.frozen 3
    have yhZ := hZ.lt
    have yhO := hO.lt
    go_wp2
    clear z0 z1 z2 z3 o0 o1 o2 o3
    replace HB : Below w.heap.size w (World.setCell (World.setCell (World.setCell (World.setCell w2 ⟨w.heap.size, 0, none⟩ (.int .i64 0)) ⟨w.heap.size, 1, none⟩ (.string ⟨#[]⟩)) ⟨w.heap.size, 2, none⟩ (.int .i64 0)) ⟨w.heap.size, 3, none⟩ (.int .i64 0)) := ((((HB.setCell (by show w.heap.size ≤ w.heap.size; omega) (.int .i64 0) (p := ⟨w.heap.size, 0, none⟩)).setCell (by show w.heap.size ≤ w.heap.size; omega) (.string ⟨#[]⟩) (p := ⟨w.heap.size, 1, none⟩)).setCell (by show w.heap.size ≤ w.heap.size; omega) (.int .i64 0) (p := ⟨w.heap.size, 2, none⟩)).setCell (by show w.heap.size ≤ w.heap.size; omega) (.int .i64 0) (p := ⟨w.heap.size, 3, none⟩))
    replace hZ : Blk (World.setCell (World.setCell (World.setCell (World.setCell w2 ⟨w.heap.size, 0, none⟩ (.int .i64 0)) ⟨w.heap.size, 1, none⟩ (.string ⟨#[]⟩)) ⟨w.heap.size, 2, none⟩ (.int .i64 0)) ⟨w.heap.size, 3, none⟩ (.int .i64 0)) (w.heap.size) 42 #[.int .i64 0, .string ⟨#[]⟩, .int .i64 0, .int .i64 0] := ((((hZ.set_ 0 (.int .i64 0)).set_ 1 (.string ⟨#[]⟩)).set_ 2 (.int .i64 0)).set_ 3 (.int .i64 0))
    replace hO := ((((hO.far' (p := ⟨w.heap.size, 0, none⟩) (by show _ ≠ w.heap.size; omega) (.int .i64 0)).far' (p := ⟨w.heap.size, 1, none⟩) (by show _ ≠ w.heap.size; omega) (.string ⟨#[]⟩)).far' (p := ⟨w.heap.size, 2, none⟩) (by show _ ≠ w.heap.size; omega) (.int .i64 0)).far' (p := ⟨w.heap.size, 3, none⟩) (by show _ ≠ w.heap.size; omega) (.int .i64 0))
    have szW9 : ((World.setCell (World.setCell (World.setCell (World.setCell w2 ⟨w.heap.size, 0, none⟩ (.int .i64 0)) ⟨w.heap.size, 1, none⟩ (.string ⟨#[]⟩)) ⟨w.heap.size, 2, none⟩ (.int .i64 0)) ⟨w.heap.size, 3, none⟩ (.int .i64 0))).heap.size = w2.heap.size := by simp [World.setCell]
    generalize World.setCell (World.setCell (World.setCell (World.setCell w2 ⟨w.heap.size, 0, none⟩ (.int .i64 0)) ⟨w.heap.size, 1, none⟩ (.string ⟨#[]⟩)) ⟨w.heap.size, 2, none⟩ (.int .i64 0)) ⟨w.heap.size, 3, none⟩ (.int .i64 0) = W9 at *
    have z0 := (hZ.cell 0).trans (show _ = some (.int .i64 0) from rfl)
    have z1 := (hZ.cell 1).trans (show _ = some (.string ⟨#[]⟩) from rfl)
    have z2 := (hZ.cell 2).trans (show _ = some (.int .i64 0) from rfl)
    have z3 := (hZ.cell 3).trans (show _ = some (.int .i64 0) from rfl)
    have o0 := (hO.cell 0).trans (show _ = some (.int .i64 0) from rfl)
    have o1 := (hO.cell 1).trans (show _ = some (.string ⟨#[]⟩) from rfl)
    have o2 := (hO.cell 2).trans (show _ = some (.int .i64 0) from rfl)
    have o3 := (hO.cell 3).trans (show _ = some (.int .i64 0) from rfl)
    refine bodyPost_ret (v := .tuple #[.agg #[.int .i64 0, .string ⟨#[]⟩, .int .i64 0, .int .i64 0], .bool false]) (by simp [results, Tryz.results25, go_sem, z0, z1, z2, z3]) rfl ?_
    exact ⟨by rw [pnV_no HNO.out], HB⟩
  by_cases hl : (spB 32 s).length = 9
  case neg =>
    have HNO : Hid (¬ ∃ n, isT s n) := Lib.hid (fun ⟨n, hn⟩ => hl (pn_len hn))
    go_enter Tryz.func25, Tryz.ntmps25
    go_upto_region 2 with fail
    have hq1 : Below w.heap.size w (World.alloc (World.alloc w (.cells #[.int .i64 0, .string ⟨#[]⟩, .int .i64 0, .int .i64 0] 42)) (.cells #[.int .i64 0, .string ⟨#[]⟩, .int .i64 0, .int .i64 0] 42)) := bl2 w _ _
    have hZ : Blk (World.alloc (World.alloc w (.cells #[.int .i64 0, .string ⟨#[]⟩, .int .i64 0, .int .i64 0] 42)) (.cells #[.int .i64 0, .string ⟨#[]⟩, .int .i64 0, .int .i64 0] 42)) (w.heap.size) 42 #[.int .i64 0, .string ⟨#[]⟩, .int .i64 0, .int .i64 0] := by repeat (first | exact Blk.new _ _ _ | exact Blk.new2 _ _ _ _ | exact Blk.new3 _ _ _ _ _ | exact Blk.new4 _ _ _ _ _ _ | refine Blk.alloc ?_ _)
    have hO : Blk (World.alloc (World.alloc w (.cells #[.int .i64 0, .string ⟨#[]⟩, .int .i64 0, .int .i64 0] 42)) (.cells #[.int .i64 0, .string ⟨#[]⟩, .int .i64 0, .int .i64 0] 42)) (w.heap.size + 1) 42 #[.int .i64 0, .string ⟨#[]⟩, .int .i64 0, .int .i64 0] := by repeat (first | exact Blk.new _ _ _ | exact Blk.new2 _ _ _ _ | exact Blk.new3 _ _ _ _ _ | exact Blk.new4 _ _ _ _ _ _ | refine Blk.alloc ?_ _)
    generalize World.alloc (World.alloc w (.cells #[.int .i64 0, .string ⟨#[]⟩, .int .i64 0, .int .i64 0] 42)) (.cells #[.int .i64 0, .string ⟨#[]⟩, .int .i64 0, .int .i64 0] 42) = wX at *
    have HB := hq1
    have z0 := (hZ.cell 0).trans (show _ = some (.int .i64 0) from rfl)
    have z1 := (hZ.cell 1).trans (show _ = some (.string ⟨#[]⟩) from rfl)
    have z2 := (hZ.cell 2).trans (show _ = some (.int .i64 0) from rfl)
    have z3 := (hZ.cell 3).trans (show _ = some (.int .i64 0) from rfl)
    have o0 := (hO.cell 0).trans (show _ = some (.int .i64 0) from rfl)
    have o1 := (hO.cell 1).trans (show _ = some (.string ⟨#[]⟩) from rfl)
    have o2 := (hO.cell 2).trans (show _ = some (.int .i64 0) from rfl)
    have o3 := (hO.cell 3).trans (show _ = some (.int .i64 0) from rfl)
    have hz0 := hZ.lt
    have ho0 := hO.lt
    go_wp2_with fail
    refine (l1SplitF_is s 32 hs _).mono ?_
    rintro e w2 ⟨A4, c4, rfl, O4, hb2⟩
    have hq2 : Below wX.heap.size wX w2 := bth (by repeat (first | exact Below.refl _ _ | refine Below.alloc ?_ (by first | exact Nat.le_refl _ | (simp <;> omega)) _ | refine Below.setCell ?_ (by first | exact Nat.le_refl _ | (simp <;> omega)) _)) hb2
    replace HB := bth HB hq2
    replace hZ := hZ.below hq2 hZ.lt
    replace z0 := (hZ.cell 0).trans (show _ = some (.int .i64 0) from rfl)
    replace z1 := (hZ.cell 1).trans (show _ = some (.string ⟨#[]⟩) from rfl)
    replace z2 := (hZ.cell 2).trans (show _ = some (.int .i64 0) from rfl)
    replace z3 := (hZ.cell 3).trans (show _ = some (.int .i64 0) from rfl)
    replace hO := hO.below hq2 hO.lt
    replace o0 := (hO.cell 0).trans (show _ = some (.int .i64 0) from rfl)
    replace o1 := (hO.cell 1).trans (show _ = some (.string ⟨#[]⟩) from rfl)
    replace o2 := (hO.cell 2).trans (show _ = some (.int .i64 0) from rfl)
    replace o3 := (hO.cell 3).trans (show _ = some (.int .i64 0) from rfl)
    have Q4 := O4.rds (hf := bC_len)
    clear O4
    have hl9 : (((spB 32 s).length : Int) == 9) = false := by rw [beq_eq_false_iff_ne]; omega
    have fhZ0 := hZ.frozen 0
    have fhZ1 := hZ.frozen 1
    have fhZ2 := hZ.frozen 2
    have fhZ3 := hZ.frozen 3
    have yhZ := hZ.lt
    have yhO := hO.lt
    go_wp2
    clear z0 z1 z2 z3 o0 o1 o2 o3
    replace HB : Below w.heap.size w (World.setCell (World.setCell (World.setCell (World.setCell w2 ⟨w.heap.size, 0, none⟩ (.int .i64 0)) ⟨w.heap.size, 1, none⟩ (.string ⟨#[]⟩)) ⟨w.heap.size, 2, none⟩ (.int .i64 0)) ⟨w.heap.size, 3, none⟩ (.int .i64 0)) := ((((HB.setCell (by show w.heap.size ≤ w.heap.size; omega) (.int .i64 0) (p := ⟨w.heap.size, 0, none⟩)).setCell (by show w.heap.size ≤ w.heap.size; omega) (.string ⟨#[]⟩) (p := ⟨w.heap.size, 1, none⟩)).setCell (by show w.heap.size ≤ w.heap.size; omega) (.int .i64 0) (p := ⟨w.heap.size, 2, none⟩)).setCell (by show w.heap.size ≤ w.heap.size; omega) (.int .i64 0) (p := ⟨w.heap.size, 3, none⟩))
    replace hZ : Blk (World.setCell (World.setCell (World.setCell (World.setCell w2 ⟨w.heap.size, 0, none⟩ (.int .i64 0)) ⟨w.heap.size, 1, none⟩ (.string ⟨#[]⟩)) ⟨w.heap.size, 2, none⟩ (.int .i64 0)) ⟨w.heap.size, 3, none⟩ (.int .i64 0)) (w.heap.size) 42 #[.int .i64 0, .string ⟨#[]⟩, .int .i64 0, .int .i64 0] := ((((hZ.set_ 0 (.int .i64 0)).set_ 1 (.string ⟨#[]⟩)).set_ 2 (.int .i64 0)).set_ 3 (.int .i64 0))
    replace hO := ((((hO.far' (p := ⟨w.heap.size, 0, none⟩) (by show _ ≠ w.heap.size; omega) (.int .i64 0)).far' (p := ⟨w.heap.size, 1, none⟩) (by show _ ≠ w.heap.size; omega) (.string ⟨#[]⟩)).far' (p := ⟨w.heap.size, 2, none⟩) (by show _ ≠ w.heap.size; omega) (.int .i64 0)).far' (p := ⟨w.heap.size, 3, none⟩) (by show _ ≠ w.heap.size; omega) (.int .i64 0))
    have szW9 : ((World.setCell (World.setCell (World.setCell (World.setCell w2 ⟨w.heap.size, 0, none⟩ (.int .i64 0)) ⟨w.heap.size, 1, none⟩ (.string ⟨#[]⟩)) ⟨w.heap.size, 2, none⟩ (.int .i64 0)) ⟨w.heap.size, 3, none⟩ (.int .i64 0))).heap.size = w2.heap.size := by simp [World.setCell]
    generalize World.setCell (World.setCell (World.setCell (World.setCell w2 ⟨w.heap.size, 0, none⟩ (.int .i64 0)) ⟨w.heap.size, 1, none⟩ (.string ⟨#[]⟩)) ⟨w.heap.size, 2, none⟩ (.int .i64 0)) ⟨w.heap.size, 3, none⟩ (.int .i64 0) = W9 at *
    have z0 := (hZ.cell 0).trans (show _ = some (.int .i64 0) from rfl)
    have z1 := (hZ.cell 1).trans (show _ = some (.string ⟨#[]⟩) from rfl)
    have z2 := (hZ.cell 2).trans (show _ = some (.int .i64 0) from rfl)
    have z3 := (hZ.cell 3).trans (show _ = some (.int .i64 0) from rfl)
    have o0 := (hO.cell 0).trans (show _ = some (.int .i64 0) from rfl)
    have o1 := (hO.cell 1).trans (show _ = some (.string ⟨#[]⟩) from rfl)
    have o2 := (hO.cell 2).trans (show _ = some (.int .i64 0) from rfl)
    have o3 := (hO.cell 3).trans (show _ = some (.int .i64 0) from rfl)
    refine bodyPost_ret (v := .tuple #[.agg #[.int .i64 0, .string ⟨#[]⟩, .int .i64 0, .int .i64 0], .bool false]) (by simp [results, Tryz.results25, go_sem, z0, z1, z2, z3]) rfl ?_
    exact ⟨by rw [pnV_no HNO.out], HB⟩
  obtain ⟨x1, h1⟩ : ∃ x, (spB 32 s)[1]? = some x := ⟨_, List.getElem?_eq_getElem (by omega)⟩
  have z1' : x1.size ≤ 1048576 := Nat.le_trans (spB_size h1) hs
  have HX1 := Lib.hid h1
  have L1 : Hid (1 < (spB 32 s).length) := Lib.hid (by omega)
  obtain ⟨x2, h2⟩ : ∃ x, (spB 32 s)[2]? = some x := ⟨_, List.getElem?_eq_getElem (by omega)⟩
  have z2' : x2.size ≤ 1048576 := Nat.le_trans (spB_size h2) hs
  have HX2 := Lib.hid h2
  have L2 : Hid (2 < (spB 32 s).length) := Lib.hid (by omega)
  obtain ⟨x6, h6⟩ : ∃ x, (spB 32 s)[6]? = some x := ⟨_, List.getElem?_eq_getElem (by omega)⟩
  have z6' : x6.size ≤ 1048576 := Nat.le_trans (spB_size h6) hs
  have HX6 := Lib.hid h6
  have L6 : Hid (6 < (spB 32 s).length) := Lib.hid (by omega)
  obtain ⟨x7, h7⟩ : ∃ x, (spB 32 s)[7]? = some x := ⟨_, List.getElem?_eq_getElem (by omega)⟩
  have z7' : x7.size ≤ 1048576 := Nat.le_trans (spB_size h7) hs
  have HX7 := Lib.hid h7
  have L7 : Hid (7 < (spB 32 s).length) := Lib.hid (by omega)
  have HF2 := Lib.hid (fun n (hn : isT s n) => pn_cuts hn h1 h2 h6 h7)
  have HHL := Lib.hid hl
  clear h1 h2 h6 h7 hl
  by_cases hc1 : 2 ≤ x1.size
  case neg =>
    have HNO : Hid (¬ ∃ n, isT s n) := Lib.hid (fun ⟨n, hn⟩ => hc1 (HF2.out n hn).1)
    go_enter Tryz.func25, Tryz.ntmps25
    go_upto_region 2 with fail
    have hq1 : Below w.heap.size w (World.alloc (World.alloc w (.cells #[.int .i64 0, .string ⟨#[]⟩, .int .i64 0, .int .i64 0] 42)) (.cells #[.int .i64 0, .string ⟨#[]⟩, .int .i64 0, .int .i64 0] 42)) := bl2 w _ _
    have hZ : Blk (World.alloc (World.alloc w (.cells #[.int .i64 0, .string ⟨#[]⟩, .int .i64 0, .int .i64 0] 42)) (.cells #[.int .i64 0, .string ⟨#[]⟩, .int .i64 0, .int .i64 0] 42)) (w.heap.size) 42 #[.int .i64 0, .string ⟨#[]⟩, .int .i64 0, .int .i64 0] := by repeat (first | exact Blk.new _ _ _ | exact Blk.new2 _ _ _ _ | exact Blk.new3 _ _ _ _ _ | exact Blk.new4 _ _ _ _ _ _ | refine Blk.alloc ?_ _)
    have hO : Blk (World.alloc (World.alloc w (.cells #[.int .i64 0, .string ⟨#[]⟩, .int .i64 0, .int .i64 0] 42)) (.cells #[.int .i64 0, .string ⟨#[]⟩, .int .i64 0, .int .i64 0] 42)) (w.heap.size + 1) 42 #[.int .i64 0, .string ⟨#[]⟩, .int .i64 0, .int .i64 0] := by repeat (first | exact Blk.new _ _ _ | exact Blk.new2 _ _ _ _ | exact Blk.new3 _ _ _ _ _ | exact Blk.new4 _ _ _ _ _ _ | refine Blk.alloc ?_ _)
    generalize World.alloc (World.alloc w (.cells #[.int .i64 0, .string ⟨#[]⟩, .int .i64 0, .int .i64 0] 42)) (.cells #[.int .i64 0, .string ⟨#[]⟩, .int .i64 0, .int .i64 0] 42) = wX at *
    have HB := hq1
    have z0 := (hZ.cell 0).trans (show _ = some (.int .i64 0) from rfl)
    have z1 := (hZ.cell 1).trans (show _ = some (.string ⟨#[]⟩) from rfl)
    have z2 := (hZ.cell 2).trans (show _ = some (.int .i64 0) from rfl)
    have z3 := (hZ.cell 3).trans (show _ = some (.int .i64 0) from rfl)
    have o0 := (hO.cell 0).trans (show _ = some (.int .i64 0) from rfl)
    have o1 := (hO.cell 1).trans (show _ = some (.string ⟨#[]⟩) from rfl)
    have o2 := (hO.cell 2).trans (show _ = some (.int .i64 0) from rfl)
    have o3 := (hO.cell 3).trans (show _ = some (.int .i64 0) from rfl)
    have hz0 := hZ.lt
    have ho0 := hO.lt
    go_wp2_with fail
    refine (l1SplitF_is s 32 hs _).mono ?_
    rintro e w2 ⟨A4, c4, rfl, O4, hb2⟩
    have hq2 : Below wX.heap.size wX w2 := bth (by repeat (first | exact Below.refl _ _ | refine Below.alloc ?_ (by first | exact Nat.le_refl _ | (simp <;> omega)) _ | refine Below.setCell ?_ (by first | exact Nat.le_refl _ | (simp <;> omega)) _)) hb2
    replace HB := bth HB hq2
    replace hZ := hZ.below hq2 hZ.lt
    replace z0 := (hZ.cell 0).trans (show _ = some (.int .i64 0) from rfl)
    replace z1 := (hZ.cell 1).trans (show _ = some (.string ⟨#[]⟩) from rfl)
    replace z2 := (hZ.cell 2).trans (show _ = some (.int .i64 0) from rfl)
    replace z3 := (hZ.cell 3).trans (show _ = some (.int .i64 0) from rfl)
    replace hO := hO.below hq2 hO.lt
    replace o0 := (hO.cell 0).trans (show _ = some (.int .i64 0) from rfl)
    replace o1 := (hO.cell 1).trans (show _ = some (.string ⟨#[]⟩) from rfl)
    replace o2 := (hO.cell 2).trans (show _ = some (.int .i64 0) from rfl)
    replace o3 := (hO.cell 3).trans (show _ = some (.int .i64 0) from rfl)
    have Q4 := O4.rds (hf := bC_len)
    clear O4
    have hl9 : (((spB 32 s).length : Int) == 9) = true := by rw [HHL.out]; rfl
    have hl8 : ((spB 32 s).length : Int) = 9 := by rw [HHL.out]; rfl
    obtain ⟨bq, oq, y1, rfl, hbl, hy, hcy⟩ := Q4.at_ (Below.refl _ _) (k := 1) L1.out
    obtain rfl : x1 = y1 := Option.some.inj (HX1.out.symm.trans hy)
    have q1 := hcy 0 _ rfl (Kin.self _)
    simp only [Nat.mul_one, Nat.add_zero, Kin.self] at q1
    clear hy hcy hbl
    have ll1 := L1.out
    have fhZ0 := hZ.frozen 0
    have fhZ1 := hZ.frozen 1
    have fhZ2 := hZ.frozen 2
    have fhZ3 := hZ.frozen 3
    have yhZ := hZ.lt
    have yhO := hO.lt
    go_wp2
    clear z0 z1 z2 z3 o0 o1 o2 o3
    replace HB : Below w.heap.size w (World.setCell (World.setCell (World.setCell (World.setCell w2 ⟨w.heap.size, 0, none⟩ (.int .i64 0)) ⟨w.heap.size, 1, none⟩ (.string ⟨#[]⟩)) ⟨w.heap.size, 2, none⟩ (.int .i64 0)) ⟨w.heap.size, 3, none⟩ (.int .i64 0)) := ((((HB.setCell (by show w.heap.size ≤ w.heap.size; omega) (.int .i64 0) (p := ⟨w.heap.size, 0, none⟩)).setCell (by show w.heap.size ≤ w.heap.size; omega) (.string ⟨#[]⟩) (p := ⟨w.heap.size, 1, none⟩)).setCell (by show w.heap.size ≤ w.heap.size; omega) (.int .i64 0) (p := ⟨w.heap.size, 2, none⟩)).setCell (by show w.heap.size ≤ w.heap.size; omega) (.int .i64 0) (p := ⟨w.heap.size, 3, none⟩))
    replace hZ : Blk (World.setCell (World.setCell (World.setCell (World.setCell w2 ⟨w.heap.size, 0, none⟩ (.int .i64 0)) ⟨w.heap.size, 1, none⟩ (.string ⟨#[]⟩)) ⟨w.heap.size, 2, none⟩ (.int .i64 0)) ⟨w.heap.size, 3, none⟩ (.int .i64 0)) (w.heap.size) 42 #[.int .i64 0, .string ⟨#[]⟩, .int .i64 0, .int .i64 0] := ((((hZ.set_ 0 (.int .i64 0)).set_ 1 (.string ⟨#[]⟩)).set_ 2 (.int .i64 0)).set_ 3 (.int .i64 0))
    replace hO := ((((hO.far' (p := ⟨w.heap.size, 0, none⟩) (by show _ ≠ w.heap.size; omega) (.int .i64 0)).far' (p := ⟨w.heap.size, 1, none⟩) (by show _ ≠ w.heap.size; omega) (.string ⟨#[]⟩)).far' (p := ⟨w.heap.size, 2, none⟩) (by show _ ≠ w.heap.size; omega) (.int .i64 0)).far' (p := ⟨w.heap.size, 3, none⟩) (by show _ ≠ w.heap.size; omega) (.int .i64 0))
    have szW9 : ((World.setCell (World.setCell (World.setCell (World.setCell w2 ⟨w.heap.size, 0, none⟩ (.int .i64 0)) ⟨w.heap.size, 1, none⟩ (.string ⟨#[]⟩)) ⟨w.heap.size, 2, none⟩ (.int .i64 0)) ⟨w.heap.size, 3, none⟩ (.int .i64 0))).heap.size = w2.heap.size := by simp [World.setCell]
    generalize World.setCell (World.setCell (World.setCell (World.setCell w2 ⟨w.heap.size, 0, none⟩ (.int .i64 0)) ⟨w.heap.size, 1, none⟩ (.string ⟨#[]⟩)) ⟨w.heap.size, 2, none⟩ (.int .i64 0)) ⟨w.heap.size, 3, none⟩ (.int .i64 0) = W9 at *
    have z0 := (hZ.cell 0).trans (show _ = some (.int .i64 0) from rfl)
    have z1 := (hZ.cell 1).trans (show _ = some (.string ⟨#[]⟩) from rfl)
    have z2 := (hZ.cell 2).trans (show _ = some (.int .i64 0) from rfl)
    have z3 := (hZ.cell 3).trans (show _ = some (.int .i64 0) from rfl)
    have o0 := (hO.cell 0).trans (show _ = some (.int .i64 0) from rfl)
    have o1 := (hO.cell 1).trans (show _ = some (.string ⟨#[]⟩) from rfl)
    have o2 := (hO.cell 2).trans (show _ = some (.int .i64 0) from rfl)
    have o3 := (hO.cell 3).trans (show _ = some (.int .i64 0) from rfl)
    refine bodyPost_ret (v := .tuple #[.agg #[.int .i64 0, .string ⟨#[]⟩, .int .i64 0, .int .i64 0], .bool false]) (by simp [results, Tryz.results25, go_sem, z0, z1, z2, z3]) rfl ?_
    exact ⟨by rw [pnV_no HNO.out], HB⟩
  by_cases hc6 : 2 ≤ x6.size
  case neg =>
    have HNO : Hid (¬ ∃ n, isT s n) := Lib.hid (fun ⟨n, hn⟩ => hc6 (HF2.out n hn).2.1)
    go_enter Tryz.func25, Tryz.ntmps25
    go_upto_region 2 with fail
    have hq1 : Below w.heap.size w (World.alloc (World.alloc w (.cells #[.int .i64 0, .string ⟨#[]⟩, .int .i64 0, .int .i64 0] 42)) (.cells #[.int .i64 0, .string ⟨#[]⟩, .int .i64 0, .int .i64 0] 42)) := bl2 w _ _
    have hZ : Blk (World.alloc (World.alloc w (.cells #[.int .i64 0, .string ⟨#[]⟩, .int .i64 0, .int .i64 0] 42)) (.cells #[.int .i64 0, .string ⟨#[]⟩, .int .i64 0, .int .i64 0] 42)) (w.heap.size) 42 #[.int .i64 0, .string ⟨#[]⟩, .int .i64 0, .int .i64 0] := by repeat (first | exact Blk.new _ _ _ | exact Blk.new2 _ _ _ _ | exact Blk.new3 _ _ _ _ _ | exact Blk.new4 _ _ _ _ _ _ | refine Blk.alloc ?_ _)
    have hO : Blk (World.alloc (World.alloc w (.cells #[.int .i64 0, .string ⟨#[]⟩, .int .i64 0, .int .i64 0] 42)) (.cells #[.int .i64 0, .string ⟨#[]⟩, .int .i64 0, .int .i64 0] 42)) (w.heap.size + 1) 42 #[.int .i64 0, .string ⟨#[]⟩, .int .i64 0, .int .i64 0] := by repeat (first | exact Blk.new _ _ _ | exact Blk.new2 _ _ _ _ | exact Blk.new3 _ _ _ _ _ | exact Blk.new4 _ _ _ _ _ _ | refine Blk.alloc ?_ _)
    generalize World.alloc (World.alloc w (.cells #[.int .i64 0, .string ⟨#[]⟩, .int .i64 0, .int .i64 0] 42)) (.cells #[.int .i64 0, .string ⟨#[]⟩, .int .i64 0, .int .i64 0] 42) = wX at *
    have HB := hq1
    have z0 := (hZ.cell 0).trans (show _ = some (.int .i64 0) from rfl)
    have z1 := (hZ.cell 1).trans (show _ = some (.string ⟨#[]⟩) from rfl)
    have z2 := (hZ.cell 2).trans (show _ = some (.int .i64 0) from rfl)
    have z3 := (hZ.cell 3).trans (show _ = some (.int .i64 0) from rfl)
    have o0 := (hO.cell 0).trans (show _ = some (.int .i64 0) from rfl)
    have o1 := (hO.cell 1).trans (show _ = some (.string ⟨#[]⟩) from rfl)
    have o2 := (hO.cell 2).trans (show _ = some (.int .i64 0) from rfl)
    have o3 := (hO.cell 3).trans (show _ = some (.int .i64 0) from rfl)
    have hz0 := hZ.lt
    have ho0 := hO.lt
    go_wp2_with fail
    refine (l1SplitF_is s 32 hs _).mono ?_
    rintro e w2 ⟨A4, c4, rfl, O4, hb2⟩
    have hq2 : Below wX.heap.size wX w2 := bth (by repeat (first | exact Below.refl _ _ | refine Below.alloc ?_ (by first | exact Nat.le_refl _ | (simp <;> omega)) _ | refine Below.setCell ?_ (by first | exact Nat.le_refl _ | (simp <;> omega)) _)) hb2
    replace HB := bth HB hq2
    replace hZ := hZ.below hq2 hZ.lt
    replace z0 := (hZ.cell 0).trans (show _ = some (.int .i64 0) from rfl)
    replace z1 := (hZ.cell 1).trans (show _ = some (.string ⟨#[]⟩) from rfl)
    replace z2 := (hZ.cell 2).trans (show _ = some (.int .i64 0) from rfl)
    replace z3 := (hZ.cell 3).trans (show _ = some (.int .i64 0) from rfl)
    replace hO := hO.below hq2 hO.lt
    replace o0 := (hO.cell 0).trans (show _ = some (.int .i64 0) from rfl)
    replace o1 := (hO.cell 1).trans (show _ = some (.string ⟨#[]⟩) from rfl)
    replace o2 := (hO.cell 2).trans (show _ = some (.int .i64 0) from rfl)
    replace o3 := (hO.cell 3).trans (show _ = some (.int .i64 0) from rfl)
    have Q4 := O4.rds (hf := bC_len)
    clear O4
    have hl9 : (((spB 32 s).length : Int) == 9) = true := by rw [HHL.out]; rfl
    have hl8 : ((spB 32 s).length : Int) = 9 := by rw [HHL.out]; rfl
    obtain ⟨bq, oq, y1, rfl, hbl, hy, hcy⟩ := Q4.at_ (Below.refl _ _) (k := 1) L1.out
    obtain rfl : x1 = y1 := Option.some.inj (HX1.out.symm.trans hy)
    have q1 := hcy 0 _ rfl (Kin.self _)
    simp only [Nat.mul_one, Nat.add_zero, Kin.self] at q1
    clear hy hcy hbl
    have ll1 := L1.out
    obtain ⟨b', o', y6, e', hbl, hy, hcy⟩ := Q4.at_ (Below.refl _ _) (k := 6) L6.out
    simp only [Option.some.injEq, Addr.mk.injEq, and_true] at e'
    obtain ⟨rfl, rfl⟩ := e'
    obtain rfl : x6 = y6 := Option.some.inj (HX6.out.symm.trans hy)
    have q6 := hcy 0 _ rfl (Kin.self _)
    simp only [Nat.mul_one, Nat.add_zero, Kin.self] at q6
    clear hy hcy hbl
    have ll6 := L6.out
    have fhZ0 := hZ.frozen 0
    have fhZ1 := hZ.frozen 1
    have fhZ2 := hZ.frozen 2
    have fhZ3 := hZ.frozen 3
    have yhZ := hZ.lt
    have yhO := hO.lt
    go_wp2
    clear z0 z1 z2 z3 o0 o1 o2 o3
    replace HB : Below w.heap.size w (World.setCell (World.setCell (World.setCell (World.setCell w2 ⟨w.heap.size, 0, none⟩ (.int .i64 0)) ⟨w.heap.size, 1, none⟩ (.string ⟨#[]⟩)) ⟨w.heap.size, 2, none⟩ (.int .i64 0)) ⟨w.heap.size, 3, none⟩ (.int .i64 0)) := ((((HB.setCell (by show w.heap.size ≤ w.heap.size; omega) (.int .i64 0) (p := ⟨w.heap.size, 0, none⟩)).setCell (by show w.heap.size ≤ w.heap.size; omega) (.string ⟨#[]⟩) (p := ⟨w.heap.size, 1, none⟩)).setCell (by show w.heap.size ≤ w.heap.size; omega) (.int .i64 0) (p := ⟨w.heap.size, 2, none⟩)).setCell (by show w.heap.size ≤ w.heap.size; omega) (.int .i64 0) (p := ⟨w.heap.size, 3, none⟩))
    replace hZ : Blk (World.setCell (World.setCell (World.setCell (World.setCell w2 ⟨w.heap.size, 0, none⟩ (.int .i64 0)) ⟨w.heap.size, 1, none⟩ (.string ⟨#[]⟩)) ⟨w.heap.size, 2, none⟩ (.int .i64 0)) ⟨w.heap.size, 3, none⟩ (.int .i64 0)) (w.heap.size) 42 #[.int .i64 0, .string ⟨#[]⟩, .int .i64 0, .int .i64 0] := ((((hZ.set_ 0 (.int .i64 0)).set_ 1 (.string ⟨#[]⟩)).set_ 2 (.int .i64 0)).set_ 3 (.int .i64 0))
    replace hO := ((((hO.far' (p := ⟨w.heap.size, 0, none⟩) (by show _ ≠ w.heap.size; omega) (.int .i64 0)).far' (p := ⟨w.heap.size, 1, none⟩) (by show _ ≠ w.heap.size; omega) (.string ⟨#[]⟩)).far' (p := ⟨w.heap.size, 2, none⟩) (by show _ ≠ w.heap.size; omega) (.int .i64 0)).far' (p := ⟨w.heap.size, 3, none⟩) (by show _ ≠ w.heap.size; omega) (.int .i64 0))
    have szW9 : ((World.setCell (World.setCell (World.setCell (World.setCell w2 ⟨w.heap.size, 0, none⟩ (.int .i64 0)) ⟨w.heap.size, 1, none⟩ (.string ⟨#[]⟩)) ⟨w.heap.size, 2, none⟩ (.int .i64 0)) ⟨w.heap.size, 3, none⟩ (.int .i64 0))).heap.size = w2.heap.size := by simp [World.setCell]
    generalize World.setCell (World.setCell (World.setCell (World.setCell w2 ⟨w.heap.size, 0, none⟩ (.int .i64 0)) ⟨w.heap.size, 1, none⟩ (.string ⟨#[]⟩)) ⟨w.heap.size, 2, none⟩ (.int .i64 0)) ⟨w.heap.size, 3, none⟩ (.int .i64 0) = W9 at *
    have z0 := (hZ.cell 0).trans (show _ = some (.int .i64 0) from rfl)
    have z1 := (hZ.cell 1).trans (show _ = some (.string ⟨#[]⟩) from rfl)
    have z2 := (hZ.cell 2).trans (show _ = some (.int .i64 0) from rfl)
    have z3 := (hZ.cell 3).trans (show _ = some (.int .i64 0) from rfl)
    have o0 := (hO.cell 0).trans (show _ = some (.int .i64 0) from rfl)
    have o1 := (hO.cell 1).trans (show _ = some (.string ⟨#[]⟩) from rfl)
    have o2 := (hO.cell 2).trans (show _ = some (.int .i64 0) from rfl)
    have o3 := (hO.cell 3).trans (show _ = some (.int .i64 0) from rfl)
    refine bodyPost_ret (v := .tuple #[.agg #[.int .i64 0, .string ⟨#[]⟩, .int .i64 0, .int .i64 0], .bool false]) (by simp [results, Tryz.results25, go_sem, z0, z1, z2, z3]) rfl ?_
    exact ⟨by rw [pnV_no HNO.out], HB⟩
  obtain ⟨m1, hm1⟩ : ∃ m, x1.size = m + 1 := ⟨x1.size - 1, by omega⟩
  obtain ⟨m6, hm6⟩ : ∃ m, x6.size = m + 1 := ⟨x6.size - 1, by omega⟩
  obtain ⟨v1, b1, r1⟩ := rdOut_form (x1.extract 0 m1)
  obtain ⟨v6, b6, r6⟩ := rdOut_form (x6.extract 0 m6)
  obtain ⟨v7, b7, r7⟩ := rdOut_form x7
  have hx2 : x2.size ≤ maxLen := by unfold maxLen; omega
  have hy1 : (x1.extract 0 m1).size ≤ maxLen := by rw [ByteArray.size_extract]; unfold maxLen; omega
  have hy6 : (x6.extract 0 m6).size ≤ maxLen := by rw [ByteArray.size_extract]; unfold maxLen; omega
  have hy7 : x7.size ≤ maxLen := by unfold maxLen; omega
  have H1 := Lib.hid r1; have H6 := Lib.hid r6; have H7 := Lib.hid r7
  have M1 := Lib.hid hm1; have M6 := Lib.hid hm6
  clear r1 r6 r7 hm1 hm6
  go_enter Tryz.func25, Tryz.ntmps25
  go_upto_region 2 with fail
  have hq1 : Below w.heap.size w (World.alloc (World.alloc w (.cells #[.int .i64 0, .string ⟨#[]⟩, .int .i64 0, .int .i64 0] 42)) (.cells #[.int .i64 0, .string ⟨#[]⟩, .int .i64 0, .int .i64 0] 42)) := bl2 w _ _
  have hZ : Blk (World.alloc (World.alloc w (.cells #[.int .i64 0, .string ⟨#[]⟩, .int .i64 0, .int .i64 0] 42)) (.cells #[.int .i64 0, .string ⟨#[]⟩, .int .i64 0, .int .i64 0] 42)) (w.heap.size) 42 #[.int .i64 0, .string ⟨#[]⟩, .int .i64 0, .int .i64 0] := by repeat (first | exact Blk.new _ _ _ | exact Blk.new2 _ _ _ _ | exact Blk.new3 _ _ _ _ _ | exact Blk.new4 _ _ _ _ _ _ | refine Blk.alloc ?_ _)
  have hO : Blk (World.alloc (World.alloc w (.cells #[.int .i64 0, .string ⟨#[]⟩, .int .i64 0, .int .i64 0] 42)) (.cells #[.int .i64 0, .string ⟨#[]⟩, .int .i64 0, .int .i64 0] 42)) (w.heap.size + 1) 42 #[.int .i64 0, .string ⟨#[]⟩, .int .i64 0, .int .i64 0] := by repeat (first | exact Blk.new _ _ _ | exact Blk.new2 _ _ _ _ | exact Blk.new3 _ _ _ _ _ | exact Blk.new4 _ _ _ _ _ _ | refine Blk.alloc ?_ _)
  generalize World.alloc (World.alloc w (.cells #[.int .i64 0, .string ⟨#[]⟩, .int .i64 0, .int .i64 0] 42)) (.cells #[.int .i64 0, .string ⟨#[]⟩, .int .i64 0, .int .i64 0] 42) = wX at *
  have HB := hq1
  have z0 := (hZ.cell 0).trans (show _ = some (.int .i64 0) from rfl)
  have z1 := (hZ.cell 1).trans (show _ = some (.string ⟨#[]⟩) from rfl)
  have z2 := (hZ.cell 2).trans (show _ = some (.int .i64 0) from rfl)
  have z3 := (hZ.cell 3).trans (show _ = some (.int .i64 0) from rfl)
  have o0 := (hO.cell 0).trans (show _ = some (.int .i64 0) from rfl)
  have o1 := (hO.cell 1).trans (show _ = some (.string ⟨#[]⟩) from rfl)
  have o2 := (hO.cell 2).trans (show _ = some (.int .i64 0) from rfl)
  have o3 := (hO.cell 3).trans (show _ = some (.int .i64 0) from rfl)
  have hz0 := hZ.lt
  have ho0 := hO.lt
  go_wp2_with fail
  refine (l1SplitF_is s 32 hs _).mono ?_
  rintro e w2 ⟨A4, c4, rfl, O4, hb2⟩
  have hq2 : Below wX.heap.size wX w2 := bth (by repeat (first | exact Below.refl _ _ | refine Below.alloc ?_ (by first | exact Nat.le_refl _ | (simp <;> omega)) _ | refine Below.setCell ?_ (by first | exact Nat.le_refl _ | (simp <;> omega)) _)) hb2
  replace HB := bth HB hq2
  replace hZ := hZ.below hq2 hZ.lt
  replace z0 := (hZ.cell 0).trans (show _ = some (.int .i64 0) from rfl)
  replace z1 := (hZ.cell 1).trans (show _ = some (.string ⟨#[]⟩) from rfl)
  replace z2 := (hZ.cell 2).trans (show _ = some (.int .i64 0) from rfl)
  replace z3 := (hZ.cell 3).trans (show _ = some (.int .i64 0) from rfl)
  replace hO := hO.below hq2 hO.lt
  replace o0 := (hO.cell 0).trans (show _ = some (.int .i64 0) from rfl)
  replace o1 := (hO.cell 1).trans (show _ = some (.string ⟨#[]⟩) from rfl)
  replace o2 := (hO.cell 2).trans (show _ = some (.int .i64 0) from rfl)
  replace o3 := (hO.cell 3).trans (show _ = some (.int .i64 0) from rfl)
  have Q4 := O4.rds (hf := bC_len)
  clear O4
  have hl9 : (((spB 32 s).length : Int) == 9) = true := by rw [HHL.out]; rfl
  have hl8 : ((spB 32 s).length : Int) = 9 := by rw [HHL.out]; rfl
  obtain ⟨bq, oq, y1, rfl, hbl, hy, hcy⟩ := Q4.at_ (Below.refl _ _) (k := 1) L1.out
  obtain rfl : x1 = y1 := Option.some.inj (HX1.out.symm.trans hy)
  have q1 := hcy 0 _ rfl (Kin.self _)
  simp only [Nat.mul_one, Nat.add_zero, Kin.self] at q1
  clear hy hcy hbl
  have ll1 := L1.out
  obtain ⟨b', o', y6, e', hbl, hy, hcy⟩ := Q4.at_ (Below.refl _ _) (k := 6) L6.out
  simp only [Option.some.injEq, Addr.mk.injEq, and_true] at e'
  obtain ⟨rfl, rfl⟩ := e'
  obtain rfl : x6 = y6 := Option.some.inj (HX6.out.symm.trans hy)
  have q6 := hcy 0 _ rfl (Kin.self _)
  simp only [Nat.mul_one, Nat.add_zero, Kin.self] at q6
  clear hy hcy hbl
  have ll6 := L6.out
  go_upto_region 5 with fail
  clear q1 q6 hl9 hl8
  have hm1 := M1.out
  obtain ⟨b', o', y1, e', hbl, hy, hcy⟩ := Q4.at_ (Below.refl _ _) (k := 1) L1.out
  simp only [Option.some.injEq, Addr.mk.injEq, and_true] at e'
  obtain ⟨rfl, rfl⟩ := e'
  obtain rfl : x1 = y1 := Option.some.inj (HX1.out.symm.trans hy)
  have p1 := hcy 0 _ rfl
  simp only [Nat.mul_one, Nat.add_zero] at p1
  clear hy hcy hbl
  have ll1 := L1.out
  clear z0 z1 z2 z3
  have z0 := fun K : Kin w2.heap.size w2 => ((hZ.below K.below hZ.lt).cell 0).trans (show _ = some (.int .i64 0) from rfl)
  have z1 := fun K : Kin w2.heap.size w2 => ((hZ.below K.below hZ.lt).cell 1).trans (show _ = some (.string ⟨#[]⟩) from rfl)
  have z2 := fun K : Kin w2.heap.size w2 => ((hZ.below K.below hZ.lt).cell 2).trans (show _ = some (.int .i64 0) from rfl)
  have z3 := fun K : Kin w2.heap.size w2 => ((hZ.below K.below hZ.lt).cell 3).trans (show _ = some (.int .i64 0) from rfl)
  clear o0 o1 o2 o3
  have o0 := fun K : Kin w2.heap.size w2 => ((hO.below K.below hO.lt).cell 0).trans (show _ = some (.int .i64 0) from rfl)
  have o1 := fun K : Kin w2.heap.size w2 => ((hO.below K.below hO.lt).cell 1).trans (show _ = some (.string ⟨#[]⟩) from rfl)
  have o2 := fun K : Kin w2.heap.size w2 => ((hO.below K.below hO.lt).cell 2).trans (show _ = some (.int .i64 0) from rfl)
  have o3 := fun K : Kin w2.heap.size w2 => ((hO.below K.below hO.lt).cell 3).trans (show _ = some (.int .i64 0) from rfl)
  refine wp_region_kin (by kernel_rfl) (by kernel_rfl) ?_
  repeat (go_big_quiet_step ((first | (go_at_call 66; exact Kin.call _ (by first | exact Nat.le_refl _ | omega) (l1ReadV_is (x1.extract 0 m1) hy1 v1 b1 H1.out _)))))
  refine wpQuiet_nil ?_
  intro K1
  clear z0 z1 z2 z3
  clear o0 o1 o2 o3
  have hq3 : Below w2.heap.size w2 K1.world := bth (by repeat (first | exact Below.refl _ _ | refine Below.alloc ?_ (by first | exact Nat.le_refl _ | (simp <;> omega)) _ | refine Below.setCell ?_ (by first | exact Nat.le_refl _ | (simp <;> omega)) _)) K1.below
  replace HB := bth HB hq3
  replace Q4 := Q4.below hq3
  replace hZ := hZ.below hq3 hZ.lt
  have z0 := (hZ.cell 0).trans (show _ = some (.int .i64 0) from rfl)
  have z1 := (hZ.cell 1).trans (show _ = some (.string ⟨#[]⟩) from rfl)
  have z2 := (hZ.cell 2).trans (show _ = some (.int .i64 0) from rfl)
  have z3 := (hZ.cell 3).trans (show _ = some (.int .i64 0) from rfl)
  replace hO := hO.below hq3 hO.lt
  have o0 := (hO.cell 0).trans (show _ = some (.int .i64 0) from rfl)
  have o1 := (hO.cell 1).trans (show _ = some (.string ⟨#[]⟩) from rfl)
  have o2 := (hO.cell 2).trans (show _ = some (.int .i64 0) from rfl)
  have o3 := (hO.cell 3).trans (show _ = some (.int .i64 0) from rfl)
  clear hm1 p1
  go_upto_region 6 with fail
  have hm6 := M6.out
  obtain ⟨b', o', y6, e', hbl, hy, hcy⟩ := Q4.at_ (Below.refl _ _) (k := 6) L6.out
  simp only [Option.some.injEq, Addr.mk.injEq, and_true] at e'
  obtain ⟨rfl, rfl⟩ := e'
  obtain rfl : x6 = y6 := Option.some.inj (HX6.out.symm.trans hy)
  have p6 := hcy 0 _ rfl
  simp only [Nat.mul_one, Nat.add_zero] at p6
  clear hy hcy hbl
  have ll6 := L6.out
  clear z0 z1 z2 z3
  have z0 := fun K : Kin K1.world.heap.size K1.world => ((hZ.below K.below hZ.lt).cell 0).trans (show _ = some (.int .i64 0) from rfl)
  have z1 := fun K : Kin K1.world.heap.size K1.world => ((hZ.below K.below hZ.lt).cell 1).trans (show _ = some (.string ⟨#[]⟩) from rfl)
  have z2 := fun K : Kin K1.world.heap.size K1.world => ((hZ.below K.below hZ.lt).cell 2).trans (show _ = some (.int .i64 0) from rfl)
  have z3 := fun K : Kin K1.world.heap.size K1.world => ((hZ.below K.below hZ.lt).cell 3).trans (show _ = some (.int .i64 0) from rfl)
  clear o0 o1 o2 o3
  have o0 := fun K : Kin K1.world.heap.size K1.world => ((hO.below K.below hO.lt).cell 0).trans (show _ = some (.int .i64 0) from rfl)
  have o1 := fun K : Kin K1.world.heap.size K1.world => ((hO.below K.below hO.lt).cell 1).trans (show _ = some (.string ⟨#[]⟩) from rfl)
  have o2 := fun K : Kin K1.world.heap.size K1.world => ((hO.below K.below hO.lt).cell 2).trans (show _ = some (.int .i64 0) from rfl)
  have o3 := fun K : Kin K1.world.heap.size K1.world => ((hO.below K.below hO.lt).cell 3).trans (show _ = some (.int .i64 0) from rfl)
  refine wp_region_kin (by kernel_rfl) (by kernel_rfl) ?_
  repeat (go_big_quiet_step ((first | (go_at_call 66; exact Kin.call _ (by first | exact Nat.le_refl _ | omega) (l1ReadV_is (x6.extract 0 m6) hy6 v6 b6 H6.out _)))))
  refine wpQuiet_nil ?_
  intro K2
  clear z0 z1 z2 z3
  clear o0 o1 o2 o3
  have hq4 : Below K1.world.heap.size K1.world K2.world := bth (by repeat (first | exact Below.refl _ _ | refine Below.alloc ?_ (by first | exact Nat.le_refl _ | (simp <;> omega)) _ | refine Below.setCell ?_ (by first | exact Nat.le_refl _ | (simp <;> omega)) _)) K2.below
  replace HB := bth HB hq4
  replace Q4 := Q4.below hq4
  replace hZ := hZ.below hq4 hZ.lt
  have z0 := (hZ.cell 0).trans (show _ = some (.int .i64 0) from rfl)
  have z1 := (hZ.cell 1).trans (show _ = some (.string ⟨#[]⟩) from rfl)
  have z2 := (hZ.cell 2).trans (show _ = some (.int .i64 0) from rfl)
  have z3 := (hZ.cell 3).trans (show _ = some (.int .i64 0) from rfl)
  replace hO := hO.below hq4 hO.lt
  have o0 := (hO.cell 0).trans (show _ = some (.int .i64 0) from rfl)
  have o1 := (hO.cell 1).trans (show _ = some (.string ⟨#[]⟩) from rfl)
  have o2 := (hO.cell 2).trans (show _ = some (.int .i64 0) from rfl)
  have o3 := (hO.cell 3).trans (show _ = some (.int .i64 0) from rfl)
  clear hm6 p6
  obtain ⟨b', o', y7, e', hbl, hy, hcy⟩ := Q4.at_ (Below.refl _ _) (k := 7) L7.out
  simp only [Option.some.injEq, Addr.mk.injEq, and_true] at e'
  obtain ⟨rfl, rfl⟩ := e'
  obtain rfl : x7 = y7 := Option.some.inj (HX7.out.symm.trans hy)
  have q7 := hcy 0 _ rfl (Kin.self _)
  simp only [Nat.mul_one, Nat.add_zero, Kin.self] at q7
  clear hy hcy hbl
  have ll7 := L7.out
  go_wp2_with fail
  refine (l1ReadV_is x7 hy7 v7 b7 H7.out _).mono ?_
  rintro e w5 ⟨rfl, hb5⟩
  have hq5 : Below K2.world.heap.size K2.world w5 := bth (by repeat (first | exact Below.refl _ _ | refine Below.alloc ?_ (by first | exact Nat.le_refl _ | (simp <;> omega)) _ | refine Below.setCell ?_ (by first | exact Nat.le_refl _ | (simp <;> omega)) _)) hb5
  replace HB := bth HB hq5
  replace Q4 := Q4.below hq5
  replace hZ := hZ.below hq5 hZ.lt
  replace z0 := (hZ.cell 0).trans (show _ = some (.int .i64 0) from rfl)
  replace z1 := (hZ.cell 1).trans (show _ = some (.string ⟨#[]⟩) from rfl)
  replace z2 := (hZ.cell 2).trans (show _ = some (.int .i64 0) from rfl)
  replace z3 := (hZ.cell 3).trans (show _ = some (.int .i64 0) from rfl)
  replace hO := hO.below hq5 hO.lt
  replace o0 := (hO.cell 0).trans (show _ = some (.int .i64 0) from rfl)
  replace o1 := (hO.cell 1).trans (show _ = some (.string ⟨#[]⟩) from rfl)
  replace o2 := (hO.cell 2).trans (show _ = some (.int .i64 0) from rfl)
  replace o3 := (hO.cell 3).trans (show _ = some (.int .i64 0) from rfl)
  clear q7
  obtain ⟨b', o', y2, e', hbl, hy, hcy⟩ := Q4.at_ (Below.refl _ _) (k := 2) L2.out
  simp only [Option.some.injEq, Addr.mk.injEq, and_true] at e'
  obtain ⟨rfl, rfl⟩ := e'
  obtain rfl : x2 = y2 := Option.some.inj (HX2.out.symm.trans hy)
  have q2 := hcy 0 _ rfl (Kin.self _)
  simp only [Nat.mul_one, Nat.add_zero, Kin.self] at q2
  clear hy hcy hbl
  have ll2 := L2.out
  have hzw := hZ.lt
  have how := hO.lt
  go_upto_region 9 with fail
  have HZ8 := Lib.hid hZ
  have HO8 := Lib.hid hO
  clear z0 z1 z2 z3 o0 o1 o2 o3
  have hq6 : Below w5.heap.size w5 (World.alloc w5 (.cells #[.int .i64 v1, .string x2, .int .i64 v6, .int .i64 v7] 42)) := bl1 w5 _
  have hN : Blk (World.alloc w5 (.cells #[.int .i64 v1, .string x2, .int .i64 v6, .int .i64 v7] 42)) (w5.heap.size) 42 #[.int .i64 v1, .string x2, .int .i64 v6, .int .i64 v7] := by repeat (first | exact Blk.new _ _ _ | exact Blk.new2 _ _ _ _ | exact Blk.new3 _ _ _ _ _ | exact Blk.new4 _ _ _ _ _ _ | refine Blk.alloc ?_ _)
  replace Q4 := Q4.below hq6
  generalize World.alloc w5 (.cells #[.int .i64 v1, .string x2, .int .i64 v6, .int .i64 v7] 42) = wN at *
  replace HB := bth HB hq6
  have n0 := (hN.cell 0).trans (show _ = some (.int .i64 v1) from rfl)
  have n1 := (hN.cell 1).trans (show _ = some (.string x2) from rfl)
  have n2 := (hN.cell 2).trans (show _ = some (.int .i64 v6) from rfl)
  have n3 := (hN.cell 3).trans (show _ = some (.int .i64 v7) from rfl)
  replace hZ := hZ.below hq6 hZ.lt
  replace hO := hO.below hq6 hO.lt
  clear q2
  have z0 := (hZ.cell 0).trans (show _ = some (.int .i64 0) from rfl)
  have z1 := (hZ.cell 1).trans (show _ = some (.string ⟨#[]⟩) from rfl)
  have z2 := (hZ.cell 2).trans (show _ = some (.int .i64 0) from rfl)
  have z3 := (hZ.cell 3).trans (show _ = some (.int .i64 0) from rfl)
  have o0 := (hO.cell 0).trans (show _ = some (.int .i64 0) from rfl)
  have o1 := (hO.cell 1).trans (show _ = some (.string ⟨#[]⟩) from rfl)
  have o2 := (hO.cell 2).trans (show _ = some (.int .i64 0) from rfl)
  have o3 := (hO.cell 3).trans (show _ = some (.int .i64 0) from rfl)
  cases b1
  · have HNO : Hid (¬ ∃ n, isT s n) := Lib.hid (fun ⟨n, hn⟩ => by
      have e := (HF2.out n hn).2.2.1 m1 M1.out
      rw [H1.out] at e; simp at e)
    have fhZ0 := hZ.frozen 0
    have fhZ1 := hZ.frozen 1
    have fhZ2 := hZ.frozen 2
    have fhZ3 := hZ.frozen 3
    have yhN := hN.lt
    have yhZ := hZ.lt
    have yhO := hO.lt
    go_wp2
    clear n0 n1 n2 n3 z0 z1 z2 z3 o0 o1 o2 o3
    replace HB : Below w.heap.size w (World.setCell (World.setCell (World.setCell (World.setCell wN ⟨w.heap.size, 0, none⟩ (.int .i64 0)) ⟨w.heap.size, 1, none⟩ (.string ⟨#[]⟩)) ⟨w.heap.size, 2, none⟩ (.int .i64 0)) ⟨w.heap.size, 3, none⟩ (.int .i64 0)) := ((((HB.setCell (by show w.heap.size ≤ w.heap.size; omega) (.int .i64 0) (p := ⟨w.heap.size, 0, none⟩)).setCell (by show w.heap.size ≤ w.heap.size; omega) (.string ⟨#[]⟩) (p := ⟨w.heap.size, 1, none⟩)).setCell (by show w.heap.size ≤ w.heap.size; omega) (.int .i64 0) (p := ⟨w.heap.size, 2, none⟩)).setCell (by show w.heap.size ≤ w.heap.size; omega) (.int .i64 0) (p := ⟨w.heap.size, 3, none⟩))
    replace hN := ((((hN.far' (p := ⟨w.heap.size, 0, none⟩) (by show _ ≠ w.heap.size; omega) (.int .i64 0)).far' (p := ⟨w.heap.size, 1, none⟩) (by show _ ≠ w.heap.size; omega) (.string ⟨#[]⟩)).far' (p := ⟨w.heap.size, 2, none⟩) (by show _ ≠ w.heap.size; omega) (.int .i64 0)).far' (p := ⟨w.heap.size, 3, none⟩) (by show _ ≠ w.heap.size; omega) (.int .i64 0))
    replace hZ : Blk (World.setCell (World.setCell (World.setCell (World.setCell wN ⟨w.heap.size, 0, none⟩ (.int .i64 0)) ⟨w.heap.size, 1, none⟩ (.string ⟨#[]⟩)) ⟨w.heap.size, 2, none⟩ (.int .i64 0)) ⟨w.heap.size, 3, none⟩ (.int .i64 0)) (w.heap.size) 42 #[.int .i64 0, .string ⟨#[]⟩, .int .i64 0, .int .i64 0] := ((((hZ.set_ 0 (.int .i64 0)).set_ 1 (.string ⟨#[]⟩)).set_ 2 (.int .i64 0)).set_ 3 (.int .i64 0))
    replace hO := ((((hO.far' (p := ⟨w.heap.size, 0, none⟩) (by show _ ≠ w.heap.size; omega) (.int .i64 0)).far' (p := ⟨w.heap.size, 1, none⟩) (by show _ ≠ w.heap.size; omega) (.string ⟨#[]⟩)).far' (p := ⟨w.heap.size, 2, none⟩) (by show _ ≠ w.heap.size; omega) (.int .i64 0)).far' (p := ⟨w.heap.size, 3, none⟩) (by show _ ≠ w.heap.size; omega) (.int .i64 0))
    have szW9 : ((World.setCell (World.setCell (World.setCell (World.setCell wN ⟨w.heap.size, 0, none⟩ (.int .i64 0)) ⟨w.heap.size, 1, none⟩ (.string ⟨#[]⟩)) ⟨w.heap.size, 2, none⟩ (.int .i64 0)) ⟨w.heap.size, 3, none⟩ (.int .i64 0))).heap.size = wN.heap.size := by simp [World.setCell]
    generalize World.setCell (World.setCell (World.setCell (World.setCell wN ⟨w.heap.size, 0, none⟩ (.int .i64 0)) ⟨w.heap.size, 1, none⟩ (.string ⟨#[]⟩)) ⟨w.heap.size, 2, none⟩ (.int .i64 0)) ⟨w.heap.size, 3, none⟩ (.int .i64 0) = W9 at *
    have n0 := (hN.cell 0).trans (show _ = some (.int .i64 v1) from rfl)
    have n1 := (hN.cell 1).trans (show _ = some (.string x2) from rfl)
    have n2 := (hN.cell 2).trans (show _ = some (.int .i64 v6) from rfl)
    have n3 := (hN.cell 3).trans (show _ = some (.int .i64 v7) from rfl)
    have z0 := (hZ.cell 0).trans (show _ = some (.int .i64 0) from rfl)
    have z1 := (hZ.cell 1).trans (show _ = some (.string ⟨#[]⟩) from rfl)
    have z2 := (hZ.cell 2).trans (show _ = some (.int .i64 0) from rfl)
    have z3 := (hZ.cell 3).trans (show _ = some (.int .i64 0) from rfl)
    have o0 := (hO.cell 0).trans (show _ = some (.int .i64 0) from rfl)
    have o1 := (hO.cell 1).trans (show _ = some (.string ⟨#[]⟩) from rfl)
    have o2 := (hO.cell 2).trans (show _ = some (.int .i64 0) from rfl)
    have o3 := (hO.cell 3).trans (show _ = some (.int .i64 0) from rfl)
    refine bodyPost_ret (v := .tuple #[.agg #[.int .i64 0, .string ⟨#[]⟩, .int .i64 0, .int .i64 0], .bool false]) (by simp [results, Tryz.results25, go_sem, z0, z1, z2, z3]) rfl ?_
    exact ⟨by rw [pnV_no HNO.out], HB⟩
  cases b6
  · have HNO : Hid (¬ ∃ n, isT s n) := Lib.hid (fun ⟨n, hn⟩ => by
      have e := (HF2.out n hn).2.2.2.2.1 m6 M6.out
      rw [H6.out] at e; simp at e)
    have fhZ0 := hZ.frozen 0
    have fhZ1 := hZ.frozen 1
    have fhZ2 := hZ.frozen 2
    have fhZ3 := hZ.frozen 3
    have yhN := hN.lt
    have yhZ := hZ.lt
    have yhO := hO.lt
    go_wp2
    clear n0 n1 n2 n3 z0 z1 z2 z3 o0 o1 o2 o3
    replace HB : Below w.heap.size w (World.setCell (World.setCell (World.setCell (World.setCell wN ⟨w.heap.size, 0, none⟩ (.int .i64 0)) ⟨w.heap.size, 1, none⟩ (.string ⟨#[]⟩)) ⟨w.heap.size, 2, none⟩ (.int .i64 0)) ⟨w.heap.size, 3, none⟩ (.int .i64 0)) := ((((HB.setCell (by show w.heap.size ≤ w.heap.size; omega) (.int .i64 0) (p := ⟨w.heap.size, 0, none⟩)).setCell (by show w.heap.size ≤ w.heap.size; omega) (.string ⟨#[]⟩) (p := ⟨w.heap.size, 1, none⟩)).setCell (by show w.heap.size ≤ w.heap.size; omega) (.int .i64 0) (p := ⟨w.heap.size, 2, none⟩)).setCell (by show w.heap.size ≤ w.heap.size; omega) (.int .i64 0) (p := ⟨w.heap.size, 3, none⟩))
    replace hN := ((((hN.far' (p := ⟨w.heap.size, 0, none⟩) (by show _ ≠ w.heap.size; omega) (.int .i64 0)).far' (p := ⟨w.heap.size, 1, none⟩) (by show _ ≠ w.heap.size; omega) (.string ⟨#[]⟩)).far' (p := ⟨w.heap.size, 2, none⟩) (by show _ ≠ w.heap.size; omega) (.int .i64 0)).far' (p := ⟨w.heap.size, 3, none⟩) (by show _ ≠ w.heap.size; omega) (.int .i64 0))
    replace hZ : Blk (World.setCell (World.setCell (World.setCell (World.setCell wN ⟨w.heap.size, 0, none⟩ (.int .i64 0)) ⟨w.heap.size, 1, none⟩ (.string ⟨#[]⟩)) ⟨w.heap.size, 2, none⟩ (.int .i64 0)) ⟨w.heap.size, 3, none⟩ (.int .i64 0)) (w.heap.size) 42 #[.int .i64 0, .string ⟨#[]⟩, .int .i64 0, .int .i64 0] := ((((hZ.set_ 0 (.int .i64 0)).set_ 1 (.string ⟨#[]⟩)).set_ 2 (.int .i64 0)).set_ 3 (.int .i64 0))
    replace hO := ((((hO.far' (p := ⟨w.heap.size, 0, none⟩) (by show _ ≠ w.heap.size; omega) (.int .i64 0)).far' (p := ⟨w.heap.size, 1, none⟩) (by show _ ≠ w.heap.size; omega) (.string ⟨#[]⟩)).far' (p := ⟨w.heap.size, 2, none⟩) (by show _ ≠ w.heap.size; omega) (.int .i64 0)).far' (p := ⟨w.heap.size, 3, none⟩) (by show _ ≠ w.heap.size; omega) (.int .i64 0))
    have szW9 : ((World.setCell (World.setCell (World.setCell (World.setCell wN ⟨w.heap.size, 0, none⟩ (.int .i64 0)) ⟨w.heap.size, 1, none⟩ (.string ⟨#[]⟩)) ⟨w.heap.size, 2, none⟩ (.int .i64 0)) ⟨w.heap.size, 3, none⟩ (.int .i64 0))).heap.size = wN.heap.size := by simp [World.setCell]
    generalize World.setCell (World.setCell (World.setCell (World.setCell wN ⟨w.heap.size, 0, none⟩ (.int .i64 0)) ⟨w.heap.size, 1, none⟩ (.string ⟨#[]⟩)) ⟨w.heap.size, 2, none⟩ (.int .i64 0)) ⟨w.heap.size, 3, none⟩ (.int .i64 0) = W9 at *
    have n0 := (hN.cell 0).trans (show _ = some (.int .i64 v1) from rfl)
    have n1 := (hN.cell 1).trans (show _ = some (.string x2) from rfl)
    have n2 := (hN.cell 2).trans (show _ = some (.int .i64 v6) from rfl)
    have n3 := (hN.cell 3).trans (show _ = some (.int .i64 v7) from rfl)
    have z0 := (hZ.cell 0).trans (show _ = some (.int .i64 0) from rfl)
    have z1 := (hZ.cell 1).trans (show _ = some (.string ⟨#[]⟩) from rfl)
    have z2 := (hZ.cell 2).trans (show _ = some (.int .i64 0) from rfl)
    have z3 := (hZ.cell 3).trans (show _ = some (.int .i64 0) from rfl)
    have o0 := (hO.cell 0).trans (show _ = some (.int .i64 0) from rfl)
    have o1 := (hO.cell 1).trans (show _ = some (.string ⟨#[]⟩) from rfl)
    have o2 := (hO.cell 2).trans (show _ = some (.int .i64 0) from rfl)
    have o3 := (hO.cell 3).trans (show _ = some (.int .i64 0) from rfl)
    refine bodyPost_ret (v := .tuple #[.agg #[.int .i64 0, .string ⟨#[]⟩, .int .i64 0, .int .i64 0], .bool false]) (by simp [results, Tryz.results25, go_sem, z0, z1, z2, z3]) rfl ?_
    exact ⟨by rw [pnV_no HNO.out], HB⟩
  cases b7
  · have HNO : Hid (¬ ∃ n, isT s n) := Lib.hid (fun ⟨n, hn⟩ => by
      have e := (HF2.out n hn).2.2.2.2.2
      rw [H7.out] at e; simp at e)
    have fhZ0 := hZ.frozen 0
    have fhZ1 := hZ.frozen 1
    have fhZ2 := hZ.frozen 2
    have fhZ3 := hZ.frozen 3
    have yhN := hN.lt
    have yhZ := hZ.lt
    have yhO := hO.lt
    go_wp2
    clear n0 n1 n2 n3 z0 z1 z2 z3 o0 o1 o2 o3
    replace HB : Below w.heap.size w (World.setCell (World.setCell (World.setCell (World.setCell wN ⟨w.heap.size, 0, none⟩ (.int .i64 0)) ⟨w.heap.size, 1, none⟩ (.string ⟨#[]⟩)) ⟨w.heap.size, 2, none⟩ (.int .i64 0)) ⟨w.heap.size, 3, none⟩ (.int .i64 0)) := ((((HB.setCell (by show w.heap.size ≤ w.heap.size; omega) (.int .i64 0) (p := ⟨w.heap.size, 0, none⟩)).setCell (by show w.heap.size ≤ w.heap.size; omega) (.string ⟨#[]⟩) (p := ⟨w.heap.size, 1, none⟩)).setCell (by show w.heap.size ≤ w.heap.size; omega) (.int .i64 0) (p := ⟨w.heap.size, 2, none⟩)).setCell (by show w.heap.size ≤ w.heap.size; omega) (.int .i64 0) (p := ⟨w.heap.size, 3, none⟩))
    replace hN := ((((hN.far' (p := ⟨w.heap.size, 0, none⟩) (by show _ ≠ w.heap.size; omega) (.int .i64 0)).far' (p := ⟨w.heap.size, 1, none⟩) (by show _ ≠ w.heap.size; omega) (.string ⟨#[]⟩)).far' (p := ⟨w.heap.size, 2, none⟩) (by show _ ≠ w.heap.size; omega) (.int .i64 0)).far' (p := ⟨w.heap.size, 3, none⟩) (by show _ ≠ w.heap.size; omega) (.int .i64 0))
    replace hZ : Blk (World.setCell (World.setCell (World.setCell (World.setCell wN ⟨w.heap.size, 0, none⟩ (.int .i64 0)) ⟨w.heap.size, 1, none⟩ (.string ⟨#[]⟩)) ⟨w.heap.size, 2, none⟩ (.int .i64 0)) ⟨w.heap.size, 3, none⟩ (.int .i64 0)) (w.heap.size) 42 #[.int .i64 0, .string ⟨#[]⟩, .int .i64 0, .int .i64 0] := ((((hZ.set_ 0 (.int .i64 0)).set_ 1 (.string ⟨#[]⟩)).set_ 2 (.int .i64 0)).set_ 3 (.int .i64 0))
    replace hO := ((((hO.far' (p := ⟨w.heap.size, 0, none⟩) (by show _ ≠ w.heap.size; omega) (.int .i64 0)).far' (p := ⟨w.heap.size, 1, none⟩) (by show _ ≠ w.heap.size; omega) (.string ⟨#[]⟩)).far' (p := ⟨w.heap.size, 2, none⟩) (by show _ ≠ w.heap.size; omega) (.int .i64 0)).far' (p := ⟨w.heap.size, 3, none⟩) (by show _ ≠ w.heap.size; omega) (.int .i64 0))
    have szW9 : ((World.setCell (World.setCell (World.setCell (World.setCell wN ⟨w.heap.size, 0, none⟩ (.int .i64 0)) ⟨w.heap.size, 1, none⟩ (.string ⟨#[]⟩)) ⟨w.heap.size, 2, none⟩ (.int .i64 0)) ⟨w.heap.size, 3, none⟩ (.int .i64 0))).heap.size = wN.heap.size := by simp [World.setCell]
    generalize World.setCell (World.setCell (World.setCell (World.setCell wN ⟨w.heap.size, 0, none⟩ (.int .i64 0)) ⟨w.heap.size, 1, none⟩ (.string ⟨#[]⟩)) ⟨w.heap.size, 2, none⟩ (.int .i64 0)) ⟨w.heap.size, 3, none⟩ (.int .i64 0) = W9 at *
    have n0 := (hN.cell 0).trans (show _ = some (.int .i64 v1) from rfl)
    have n1 := (hN.cell 1).trans (show _ = some (.string x2) from rfl)
    have n2 := (hN.cell 2).trans (show _ = some (.int .i64 v6) from rfl)
    have n3 := (hN.cell 3).trans (show _ = some (.int .i64 v7) from rfl)
    have z0 := (hZ.cell 0).trans (show _ = some (.int .i64 0) from rfl)
    have z1 := (hZ.cell 1).trans (show _ = some (.string ⟨#[]⟩) from rfl)
    have z2 := (hZ.cell 2).trans (show _ = some (.int .i64 0) from rfl)
    have z3 := (hZ.cell 3).trans (show _ = some (.int .i64 0) from rfl)
    have o0 := (hO.cell 0).trans (show _ = some (.int .i64 0) from rfl)
    have o1 := (hO.cell 1).trans (show _ = some (.string ⟨#[]⟩) from rfl)
    have o2 := (hO.cell 2).trans (show _ = some (.int .i64 0) from rfl)
    have o3 := (hO.cell 3).trans (show _ = some (.int .i64 0) from rfl)
    refine bodyPost_ret (v := .tuple #[.agg #[.int .i64 0, .string ⟨#[]⟩, .int .i64 0, .int .i64 0], .bool false]) (by simp [results, Tryz.results25, go_sem, z0, z1, z2, z3]) rfl ?_
    exact ⟨by rw [pnV_no HNO.out], HB⟩
  have heq : ∀ n, isT s n → n.id = v1 ∧ n.topic = x2 ∧ n.given = v6 ∧ n.days = v7 := fun n hn => by
    obtain ⟨_, _, e1, e2, e3, e4⟩ := HF2.out n hn
    replace e1 := e1 m1 M1.out
    replace e3 := e3 m6 M6.out
    rw [H1.out] at e1; rw [H6.out] at e3; rw [H7.out] at e4
    simp at e1 e3 e4
    exact ⟨e1.symm, e2.symm, e3.symm, e4.symm⟩
  have HEQ := Lib.hid heq; clear heq
  cases hv : noticeB ⟨v1, x2, v6, v7, hx2⟩
  · have HNO : Hid (¬ ∃ n, isT s n) := Lib.hid (fun ⟨n, hn⟩ => by
      obtain ⟨e1, e2, e3, e4⟩ := HEQ.out n hn
      have hv2 := hn.1
      obtain ⟨ni, nt, ng, nd, nok⟩ := n
      simp only at e1 e2 e3 e4
      subst e1 e2 e3 e4
      rw [hv] at hv2; cases hv2)
    have HV := Lib.hid hv; clear hv
    go_wp2_with fail
    refine (l24One_is v1 v6 v7 x2 hx2 _ HV.out _).mono ?_
    rintro e w7 ⟨rfl, hb7⟩
    have hq7 : Below wN.heap.size wN w7 := bth (by repeat (first | exact Below.refl _ _ | refine Below.alloc ?_ (by first | exact Nat.le_refl _ | (simp <;> omega)) _ | refine Below.setCell ?_ (by first | exact Nat.le_refl _ | (simp <;> omega)) _)) hb7
    replace HB := bth HB hq7
    replace Q4 := Q4.below hq7
    replace hN := hN.below hq7 hN.lt
    replace n0 := (hN.cell 0).trans (show _ = some (.int .i64 v1) from rfl)
    replace n1 := (hN.cell 1).trans (show _ = some (.string x2) from rfl)
    replace n2 := (hN.cell 2).trans (show _ = some (.int .i64 v6) from rfl)
    replace n3 := (hN.cell 3).trans (show _ = some (.int .i64 v7) from rfl)
    replace hZ := hZ.below hq7 hZ.lt
    replace z0 := (hZ.cell 0).trans (show _ = some (.int .i64 0) from rfl)
    replace z1 := (hZ.cell 1).trans (show _ = some (.string ⟨#[]⟩) from rfl)
    replace z2 := (hZ.cell 2).trans (show _ = some (.int .i64 0) from rfl)
    replace z3 := (hZ.cell 3).trans (show _ = some (.int .i64 0) from rfl)
    replace hO := hO.below hq7 hO.lt
    replace o0 := (hO.cell 0).trans (show _ = some (.int .i64 0) from rfl)
    replace o1 := (hO.cell 1).trans (show _ = some (.string ⟨#[]⟩) from rfl)
    replace o2 := (hO.cell 2).trans (show _ = some (.int .i64 0) from rfl)
    replace o3 := (hO.cell 3).trans (show _ = some (.int .i64 0) from rfl)
    have fhZ0 := hZ.frozen 0
    have fhZ1 := hZ.frozen 1
    have fhZ2 := hZ.frozen 2
    have fhZ3 := hZ.frozen 3
    have yhN := hN.lt
    have yhZ := hZ.lt
    have yhO := hO.lt
    go_wp2
    clear n0 n1 n2 n3 z0 z1 z2 z3 o0 o1 o2 o3
    replace HB : Below w.heap.size w (World.setCell (World.setCell (World.setCell (World.setCell w7 ⟨w.heap.size, 0, none⟩ (.int .i64 0)) ⟨w.heap.size, 1, none⟩ (.string ⟨#[]⟩)) ⟨w.heap.size, 2, none⟩ (.int .i64 0)) ⟨w.heap.size, 3, none⟩ (.int .i64 0)) := ((((HB.setCell (by show w.heap.size ≤ w.heap.size; omega) (.int .i64 0) (p := ⟨w.heap.size, 0, none⟩)).setCell (by show w.heap.size ≤ w.heap.size; omega) (.string ⟨#[]⟩) (p := ⟨w.heap.size, 1, none⟩)).setCell (by show w.heap.size ≤ w.heap.size; omega) (.int .i64 0) (p := ⟨w.heap.size, 2, none⟩)).setCell (by show w.heap.size ≤ w.heap.size; omega) (.int .i64 0) (p := ⟨w.heap.size, 3, none⟩))
    replace hN := ((((hN.far' (p := ⟨w.heap.size, 0, none⟩) (by show _ ≠ w.heap.size; omega) (.int .i64 0)).far' (p := ⟨w.heap.size, 1, none⟩) (by show _ ≠ w.heap.size; omega) (.string ⟨#[]⟩)).far' (p := ⟨w.heap.size, 2, none⟩) (by show _ ≠ w.heap.size; omega) (.int .i64 0)).far' (p := ⟨w.heap.size, 3, none⟩) (by show _ ≠ w.heap.size; omega) (.int .i64 0))
    replace hZ : Blk (World.setCell (World.setCell (World.setCell (World.setCell w7 ⟨w.heap.size, 0, none⟩ (.int .i64 0)) ⟨w.heap.size, 1, none⟩ (.string ⟨#[]⟩)) ⟨w.heap.size, 2, none⟩ (.int .i64 0)) ⟨w.heap.size, 3, none⟩ (.int .i64 0)) (w.heap.size) 42 #[.int .i64 0, .string ⟨#[]⟩, .int .i64 0, .int .i64 0] := ((((hZ.set_ 0 (.int .i64 0)).set_ 1 (.string ⟨#[]⟩)).set_ 2 (.int .i64 0)).set_ 3 (.int .i64 0))
    replace hO := ((((hO.far' (p := ⟨w.heap.size, 0, none⟩) (by show _ ≠ w.heap.size; omega) (.int .i64 0)).far' (p := ⟨w.heap.size, 1, none⟩) (by show _ ≠ w.heap.size; omega) (.string ⟨#[]⟩)).far' (p := ⟨w.heap.size, 2, none⟩) (by show _ ≠ w.heap.size; omega) (.int .i64 0)).far' (p := ⟨w.heap.size, 3, none⟩) (by show _ ≠ w.heap.size; omega) (.int .i64 0))
    have szW9 : ((World.setCell (World.setCell (World.setCell (World.setCell w7 ⟨w.heap.size, 0, none⟩ (.int .i64 0)) ⟨w.heap.size, 1, none⟩ (.string ⟨#[]⟩)) ⟨w.heap.size, 2, none⟩ (.int .i64 0)) ⟨w.heap.size, 3, none⟩ (.int .i64 0))).heap.size = w7.heap.size := by simp [World.setCell]
    generalize World.setCell (World.setCell (World.setCell (World.setCell w7 ⟨w.heap.size, 0, none⟩ (.int .i64 0)) ⟨w.heap.size, 1, none⟩ (.string ⟨#[]⟩)) ⟨w.heap.size, 2, none⟩ (.int .i64 0)) ⟨w.heap.size, 3, none⟩ (.int .i64 0) = W9 at *
    have n0 := (hN.cell 0).trans (show _ = some (.int .i64 v1) from rfl)
    have n1 := (hN.cell 1).trans (show _ = some (.string x2) from rfl)
    have n2 := (hN.cell 2).trans (show _ = some (.int .i64 v6) from rfl)
    have n3 := (hN.cell 3).trans (show _ = some (.int .i64 v7) from rfl)
    have z0 := (hZ.cell 0).trans (show _ = some (.int .i64 0) from rfl)
    have z1 := (hZ.cell 1).trans (show _ = some (.string ⟨#[]⟩) from rfl)
    have z2 := (hZ.cell 2).trans (show _ = some (.int .i64 0) from rfl)
    have z3 := (hZ.cell 3).trans (show _ = some (.int .i64 0) from rfl)
    have o0 := (hO.cell 0).trans (show _ = some (.int .i64 0) from rfl)
    have o1 := (hO.cell 1).trans (show _ = some (.string ⟨#[]⟩) from rfl)
    have o2 := (hO.cell 2).trans (show _ = some (.int .i64 0) from rfl)
    have o3 := (hO.cell 3).trans (show _ = some (.int .i64 0) from rfl)
    refine bodyPost_ret (v := .tuple #[.agg #[.int .i64 0, .string ⟨#[]⟩, .int .i64 0, .int .i64 0], .bool false]) (by simp [results, Tryz.results25, go_sem, z0, z1, z2, z3]) rfl ?_
    exact ⟨by rw [pnV_no HNO.out], HB⟩
  have HV := Lib.hid hv; clear hv
  by_cases he : (⟨v1, x2, v6, v7, hx2⟩ : Ntc).txt = s
  case neg =>
    have HNO : Hid (¬ ∃ n, isT s n) := Lib.hid (fun ⟨n, hn⟩ => by
      obtain ⟨e1, e2, e3, e4⟩ := HEQ.out n hn
      have hv2 := hn.2
      obtain ⟨ni, nt, ng, nd, nok⟩ := n
      simp only at e1 e2 e3 e4
      subst e1 e2 e3 e4
      exact he hv2)
    have hcmp := str_differ he
    go_wp2_with fail
    refine (l24One_is v1 v6 v7 x2 hx2 _ HV.out _).mono ?_
    rintro e w7 ⟨rfl, hb7⟩
    have hq7 : Below wN.heap.size wN w7 := bth (by repeat (first | exact Below.refl _ _ | refine Below.alloc ?_ (by first | exact Nat.le_refl _ | (simp <;> omega)) _ | refine Below.setCell ?_ (by first | exact Nat.le_refl _ | (simp <;> omega)) _)) hb7
    replace HB := bth HB hq7
    replace Q4 := Q4.below hq7
    replace hN := hN.below hq7 hN.lt
    replace n0 := (hN.cell 0).trans (show _ = some (.int .i64 v1) from rfl)
    replace n1 := (hN.cell 1).trans (show _ = some (.string x2) from rfl)
    replace n2 := (hN.cell 2).trans (show _ = some (.int .i64 v6) from rfl)
    replace n3 := (hN.cell 3).trans (show _ = some (.int .i64 v7) from rfl)
    replace hZ := hZ.below hq7 hZ.lt
    replace z0 := (hZ.cell 0).trans (show _ = some (.int .i64 0) from rfl)
    replace z1 := (hZ.cell 1).trans (show _ = some (.string ⟨#[]⟩) from rfl)
    replace z2 := (hZ.cell 2).trans (show _ = some (.int .i64 0) from rfl)
    replace z3 := (hZ.cell 3).trans (show _ = some (.int .i64 0) from rfl)
    replace hO := hO.below hq7 hO.lt
    replace o0 := (hO.cell 0).trans (show _ = some (.int .i64 0) from rfl)
    replace o1 := (hO.cell 1).trans (show _ = some (.string ⟨#[]⟩) from rfl)
    replace o2 := (hO.cell 2).trans (show _ = some (.int .i64 0) from rfl)
    replace o3 := (hO.cell 3).trans (show _ = some (.int .i64 0) from rfl)
    go_wp2_with fail
    refine (l24Text_is v1 v6 v7 x2 hx2 HV.out _).mono ?_
    rintro e w8 ⟨rfl, hb8⟩
    have hq8 : Below w7.heap.size w7 w8 := bth (by repeat (first | exact Below.refl _ _ | refine Below.alloc ?_ (by first | exact Nat.le_refl _ | (simp <;> omega)) _ | refine Below.setCell ?_ (by first | exact Nat.le_refl _ | (simp <;> omega)) _)) hb8
    replace HB := bth HB hq8
    replace Q4 := Q4.below hq8
    replace hN := hN.below hq8 hN.lt
    replace n0 := (hN.cell 0).trans (show _ = some (.int .i64 v1) from rfl)
    replace n1 := (hN.cell 1).trans (show _ = some (.string x2) from rfl)
    replace n2 := (hN.cell 2).trans (show _ = some (.int .i64 v6) from rfl)
    replace n3 := (hN.cell 3).trans (show _ = some (.int .i64 v7) from rfl)
    replace hZ := hZ.below hq8 hZ.lt
    replace z0 := (hZ.cell 0).trans (show _ = some (.int .i64 0) from rfl)
    replace z1 := (hZ.cell 1).trans (show _ = some (.string ⟨#[]⟩) from rfl)
    replace z2 := (hZ.cell 2).trans (show _ = some (.int .i64 0) from rfl)
    replace z3 := (hZ.cell 3).trans (show _ = some (.int .i64 0) from rfl)
    replace hO := hO.below hq8 hO.lt
    replace o0 := (hO.cell 0).trans (show _ = some (.int .i64 0) from rfl)
    replace o1 := (hO.cell 1).trans (show _ = some (.string ⟨#[]⟩) from rfl)
    replace o2 := (hO.cell 2).trans (show _ = some (.int .i64 0) from rfl)
    replace o3 := (hO.cell 3).trans (show _ = some (.int .i64 0) from rfl)
    have fhZ0 := hZ.frozen 0
    have fhZ1 := hZ.frozen 1
    have fhZ2 := hZ.frozen 2
    have fhZ3 := hZ.frozen 3
    have yhN := hN.lt
    have yhZ := hZ.lt
    have yhO := hO.lt
    go_wp2
    clear n0 n1 n2 n3 z0 z1 z2 z3 o0 o1 o2 o3
    replace HB : Below w.heap.size w (World.setCell (World.setCell (World.setCell (World.setCell w8 ⟨w.heap.size, 0, none⟩ (.int .i64 0)) ⟨w.heap.size, 1, none⟩ (.string ⟨#[]⟩)) ⟨w.heap.size, 2, none⟩ (.int .i64 0)) ⟨w.heap.size, 3, none⟩ (.int .i64 0)) := ((((HB.setCell (by show w.heap.size ≤ w.heap.size; omega) (.int .i64 0) (p := ⟨w.heap.size, 0, none⟩)).setCell (by show w.heap.size ≤ w.heap.size; omega) (.string ⟨#[]⟩) (p := ⟨w.heap.size, 1, none⟩)).setCell (by show w.heap.size ≤ w.heap.size; omega) (.int .i64 0) (p := ⟨w.heap.size, 2, none⟩)).setCell (by show w.heap.size ≤ w.heap.size; omega) (.int .i64 0) (p := ⟨w.heap.size, 3, none⟩))
    replace hN := ((((hN.far' (p := ⟨w.heap.size, 0, none⟩) (by show _ ≠ w.heap.size; omega) (.int .i64 0)).far' (p := ⟨w.heap.size, 1, none⟩) (by show _ ≠ w.heap.size; omega) (.string ⟨#[]⟩)).far' (p := ⟨w.heap.size, 2, none⟩) (by show _ ≠ w.heap.size; omega) (.int .i64 0)).far' (p := ⟨w.heap.size, 3, none⟩) (by show _ ≠ w.heap.size; omega) (.int .i64 0))
    replace hZ : Blk (World.setCell (World.setCell (World.setCell (World.setCell w8 ⟨w.heap.size, 0, none⟩ (.int .i64 0)) ⟨w.heap.size, 1, none⟩ (.string ⟨#[]⟩)) ⟨w.heap.size, 2, none⟩ (.int .i64 0)) ⟨w.heap.size, 3, none⟩ (.int .i64 0)) (w.heap.size) 42 #[.int .i64 0, .string ⟨#[]⟩, .int .i64 0, .int .i64 0] := ((((hZ.set_ 0 (.int .i64 0)).set_ 1 (.string ⟨#[]⟩)).set_ 2 (.int .i64 0)).set_ 3 (.int .i64 0))
    replace hO := ((((hO.far' (p := ⟨w.heap.size, 0, none⟩) (by show _ ≠ w.heap.size; omega) (.int .i64 0)).far' (p := ⟨w.heap.size, 1, none⟩) (by show _ ≠ w.heap.size; omega) (.string ⟨#[]⟩)).far' (p := ⟨w.heap.size, 2, none⟩) (by show _ ≠ w.heap.size; omega) (.int .i64 0)).far' (p := ⟨w.heap.size, 3, none⟩) (by show _ ≠ w.heap.size; omega) (.int .i64 0))
    have szW9 : ((World.setCell (World.setCell (World.setCell (World.setCell w8 ⟨w.heap.size, 0, none⟩ (.int .i64 0)) ⟨w.heap.size, 1, none⟩ (.string ⟨#[]⟩)) ⟨w.heap.size, 2, none⟩ (.int .i64 0)) ⟨w.heap.size, 3, none⟩ (.int .i64 0))).heap.size = w8.heap.size := by simp [World.setCell]
    generalize World.setCell (World.setCell (World.setCell (World.setCell w8 ⟨w.heap.size, 0, none⟩ (.int .i64 0)) ⟨w.heap.size, 1, none⟩ (.string ⟨#[]⟩)) ⟨w.heap.size, 2, none⟩ (.int .i64 0)) ⟨w.heap.size, 3, none⟩ (.int .i64 0) = W9 at *
    have n0 := (hN.cell 0).trans (show _ = some (.int .i64 v1) from rfl)
    have n1 := (hN.cell 1).trans (show _ = some (.string x2) from rfl)
    have n2 := (hN.cell 2).trans (show _ = some (.int .i64 v6) from rfl)
    have n3 := (hN.cell 3).trans (show _ = some (.int .i64 v7) from rfl)
    have z0 := (hZ.cell 0).trans (show _ = some (.int .i64 0) from rfl)
    have z1 := (hZ.cell 1).trans (show _ = some (.string ⟨#[]⟩) from rfl)
    have z2 := (hZ.cell 2).trans (show _ = some (.int .i64 0) from rfl)
    have z3 := (hZ.cell 3).trans (show _ = some (.int .i64 0) from rfl)
    have o0 := (hO.cell 0).trans (show _ = some (.int .i64 0) from rfl)
    have o1 := (hO.cell 1).trans (show _ = some (.string ⟨#[]⟩) from rfl)
    have o2 := (hO.cell 2).trans (show _ = some (.int .i64 0) from rfl)
    have o3 := (hO.cell 3).trans (show _ = some (.int .i64 0) from rfl)
    refine bodyPost_ret (v := .tuple #[.agg #[.int .i64 0, .string ⟨#[]⟩, .int .i64 0, .int .i64 0], .bool false]) (by simp [results, Tryz.results25, go_sem, z0, z1, z2, z3]) rfl ?_
    exact ⟨by rw [pnV_no HNO.out], HB⟩
  have hcmp : ((⟨v1, x2, v6, v7, hx2⟩ : Ntc).txt.toList == s.toList) = true := beq_iff_eq.2 (by rw [he])
  have HY : Hid (isT s ⟨v1, x2, v6, v7, hx2⟩) := Lib.hid ⟨HV.out, he⟩
  clear he
  go_wp2_with fail
  refine (l24One_is v1 v6 v7 x2 hx2 _ HV.out _).mono ?_
  rintro e w7 ⟨rfl, hb7⟩
  have hq7 : Below wN.heap.size wN w7 := bth (by repeat (first | exact Below.refl _ _ | refine Below.alloc ?_ (by first | exact Nat.le_refl _ | (simp <;> omega)) _ | refine Below.setCell ?_ (by first | exact Nat.le_refl _ | (simp <;> omega)) _)) hb7
  replace HB := bth HB hq7
  replace Q4 := Q4.below hq7
  replace hN := hN.below hq7 hN.lt
  replace n0 := (hN.cell 0).trans (show _ = some (.int .i64 v1) from rfl)
  replace n1 := (hN.cell 1).trans (show _ = some (.string x2) from rfl)
  replace n2 := (hN.cell 2).trans (show _ = some (.int .i64 v6) from rfl)
  replace n3 := (hN.cell 3).trans (show _ = some (.int .i64 v7) from rfl)
  replace hZ := hZ.below hq7 hZ.lt
  replace z0 := (hZ.cell 0).trans (show _ = some (.int .i64 0) from rfl)
  replace z1 := (hZ.cell 1).trans (show _ = some (.string ⟨#[]⟩) from rfl)
  replace z2 := (hZ.cell 2).trans (show _ = some (.int .i64 0) from rfl)
  replace z3 := (hZ.cell 3).trans (show _ = some (.int .i64 0) from rfl)
  replace hO := hO.below hq7 hO.lt
  replace o0 := (hO.cell 0).trans (show _ = some (.int .i64 0) from rfl)
  replace o1 := (hO.cell 1).trans (show _ = some (.string ⟨#[]⟩) from rfl)
  replace o2 := (hO.cell 2).trans (show _ = some (.int .i64 0) from rfl)
  replace o3 := (hO.cell 3).trans (show _ = some (.int .i64 0) from rfl)
  go_wp2_with fail
  refine (l24Text_is v1 v6 v7 x2 hx2 HV.out _).mono ?_
  rintro e w8 ⟨rfl, hb8⟩
  have hq8 : Below w7.heap.size w7 w8 := bth (by repeat (first | exact Below.refl _ _ | refine Below.alloc ?_ (by first | exact Nat.le_refl _ | (simp <;> omega)) _ | refine Below.setCell ?_ (by first | exact Nat.le_refl _ | (simp <;> omega)) _)) hb8
  replace HB := bth HB hq8
  replace Q4 := Q4.below hq8
  replace hN := hN.below hq8 hN.lt
  replace n0 := (hN.cell 0).trans (show _ = some (.int .i64 v1) from rfl)
  replace n1 := (hN.cell 1).trans (show _ = some (.string x2) from rfl)
  replace n2 := (hN.cell 2).trans (show _ = some (.int .i64 v6) from rfl)
  replace n3 := (hN.cell 3).trans (show _ = some (.int .i64 v7) from rfl)
  replace hZ := hZ.below hq8 hZ.lt
  replace z0 := (hZ.cell 0).trans (show _ = some (.int .i64 0) from rfl)
  replace z1 := (hZ.cell 1).trans (show _ = some (.string ⟨#[]⟩) from rfl)
  replace z2 := (hZ.cell 2).trans (show _ = some (.int .i64 0) from rfl)
  replace z3 := (hZ.cell 3).trans (show _ = some (.int .i64 0) from rfl)
  replace hO := hO.below hq8 hO.lt
  replace o0 := (hO.cell 0).trans (show _ = some (.int .i64 0) from rfl)
  replace o1 := (hO.cell 1).trans (show _ = some (.string ⟨#[]⟩) from rfl)
  replace o2 := (hO.cell 2).trans (show _ = some (.int .i64 0) from rfl)
  replace o3 := (hO.cell 3).trans (show _ = some (.int .i64 0) from rfl)
  have fhZ0 := hZ.frozen 0
  have fhZ1 := hZ.frozen 1
  have fhZ2 := hZ.frozen 2
  have fhZ3 := hZ.frozen 3
  have yhN := hN.lt
  have yhZ := hZ.lt
  have yhO := hO.lt
  go_wp2
  clear n0 n1 n2 n3 z0 z1 z2 z3 o0 o1 o2 o3
  replace HB : Below w.heap.size w (World.setCell (World.setCell (World.setCell (World.setCell w8 ⟨w.heap.size, 0, none⟩ (.int .i64 v1)) ⟨w.heap.size, 1, none⟩ (.string x2)) ⟨w.heap.size, 2, none⟩ (.int .i64 v6)) ⟨w.heap.size, 3, none⟩ (.int .i64 v7)) := ((((HB.setCell (by show w.heap.size ≤ w.heap.size; omega) (.int .i64 v1) (p := ⟨w.heap.size, 0, none⟩)).setCell (by show w.heap.size ≤ w.heap.size; omega) (.string x2) (p := ⟨w.heap.size, 1, none⟩)).setCell (by show w.heap.size ≤ w.heap.size; omega) (.int .i64 v6) (p := ⟨w.heap.size, 2, none⟩)).setCell (by show w.heap.size ≤ w.heap.size; omega) (.int .i64 v7) (p := ⟨w.heap.size, 3, none⟩))
  replace hN := ((((hN.far' (p := ⟨w.heap.size, 0, none⟩) (by show _ ≠ w.heap.size; omega) (.int .i64 v1)).far' (p := ⟨w.heap.size, 1, none⟩) (by show _ ≠ w.heap.size; omega) (.string x2)).far' (p := ⟨w.heap.size, 2, none⟩) (by show _ ≠ w.heap.size; omega) (.int .i64 v6)).far' (p := ⟨w.heap.size, 3, none⟩) (by show _ ≠ w.heap.size; omega) (.int .i64 v7))
  replace hZ : Blk (World.setCell (World.setCell (World.setCell (World.setCell w8 ⟨w.heap.size, 0, none⟩ (.int .i64 v1)) ⟨w.heap.size, 1, none⟩ (.string x2)) ⟨w.heap.size, 2, none⟩ (.int .i64 v6)) ⟨w.heap.size, 3, none⟩ (.int .i64 v7)) (w.heap.size) 42 #[.int .i64 v1, .string x2, .int .i64 v6, .int .i64 v7] := ((((hZ.set_ 0 (.int .i64 v1)).set_ 1 (.string x2)).set_ 2 (.int .i64 v6)).set_ 3 (.int .i64 v7))
  replace hO := ((((hO.far' (p := ⟨w.heap.size, 0, none⟩) (by show _ ≠ w.heap.size; omega) (.int .i64 v1)).far' (p := ⟨w.heap.size, 1, none⟩) (by show _ ≠ w.heap.size; omega) (.string x2)).far' (p := ⟨w.heap.size, 2, none⟩) (by show _ ≠ w.heap.size; omega) (.int .i64 v6)).far' (p := ⟨w.heap.size, 3, none⟩) (by show _ ≠ w.heap.size; omega) (.int .i64 v7))
  have szW9 : ((World.setCell (World.setCell (World.setCell (World.setCell w8 ⟨w.heap.size, 0, none⟩ (.int .i64 v1)) ⟨w.heap.size, 1, none⟩ (.string x2)) ⟨w.heap.size, 2, none⟩ (.int .i64 v6)) ⟨w.heap.size, 3, none⟩ (.int .i64 v7))).heap.size = w8.heap.size := by simp [World.setCell]
  generalize World.setCell (World.setCell (World.setCell (World.setCell w8 ⟨w.heap.size, 0, none⟩ (.int .i64 v1)) ⟨w.heap.size, 1, none⟩ (.string x2)) ⟨w.heap.size, 2, none⟩ (.int .i64 v6)) ⟨w.heap.size, 3, none⟩ (.int .i64 v7) = W9 at *
  have n0 := (hN.cell 0).trans (show _ = some (.int .i64 v1) from rfl)
  have n1 := (hN.cell 1).trans (show _ = some (.string x2) from rfl)
  have n2 := (hN.cell 2).trans (show _ = some (.int .i64 v6) from rfl)
  have n3 := (hN.cell 3).trans (show _ = some (.int .i64 v7) from rfl)
  have z0 := (hZ.cell 0).trans (show _ = some (.int .i64 v1) from rfl)
  have z1 := (hZ.cell 1).trans (show _ = some (.string x2) from rfl)
  have z2 := (hZ.cell 2).trans (show _ = some (.int .i64 v6) from rfl)
  have z3 := (hZ.cell 3).trans (show _ = some (.int .i64 v7) from rfl)
  have o0 := (hO.cell 0).trans (show _ = some (.int .i64 0) from rfl)
  have o1 := (hO.cell 1).trans (show _ = some (.string ⟨#[]⟩) from rfl)
  have o2 := (hO.cell 2).trans (show _ = some (.int .i64 0) from rfl)
  have o3 := (hO.cell 3).trans (show _ = some (.int .i64 0) from rfl)
  refine bodyPost_ret (v := .tuple #[.agg #[.int .i64 v1, .string x2, .int .i64 v6, .int .i64 v7], .bool true]) (by simp [results, Tryz.results25, go_sem, z0, z1, z2, z3]) rfl ?_
  exact ⟨by rw [pnV_yes HY.out], HB⟩
end Go.Proofs.YtbnncgahepcfnaaGreatDoor
