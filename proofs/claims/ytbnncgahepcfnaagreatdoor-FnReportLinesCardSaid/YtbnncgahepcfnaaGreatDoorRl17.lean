/- The law of ParseOutcome: the program's answer is the reference's, for every text: the walk. -/
import Derived.Test.YtbnncgahepcfnaaGreatDoorRl16
import Derived.Deep.Cut
import Derived.Test.YtbnncgahepcfnaaGreatDoorRl13
import Derived.Test.YtbnncgahepcfnaaGreatDoorRl7
import Derived.Deep.RegionHeld3
import Derived.Test.YtbnncgahepcfnaaGreatDoorRl9
import Derived.Test.YtbnncgahepcfnaaGreatDoorRl6
import Derived.Outline
namespace Go.Proofs.YtbnncgahepcfnaaGreatDoor
open Go.RowKit Go.G9
set_option maxHeartbeats 4000000 in
set_option maxRecDepth 100000 in
theorem sParseOutcome_is (s : ByteArray) (hs : s.size ≤ 1048576) (w : World) : Calls Tryz.prog 11 #[.string s] w fun e w' => e = .returned (resV (poO s)) ∧ Below w.heap.size w w' := by
  obtain ⟨m, nd, y, n, a, b, hv⟩ := resV_form (poO s)
  have HS := Lib.hid (fun W => hv ▸ l26Parse_is s hs W)
  rw [hv]
  clear hv
  go_enter Tryz.func11, Tryz.ntmps11
  go_upto_region 1 with fail
  have hq1 : Below w.heap.size w (World.alloc w (.cells #[.string ⟨#[]⟩, .int .i64 0, .int .i64 0, .int .i64 0, .int .i64 0] 27)) := bl1 w _
  have hZ : Blk (World.alloc w (.cells #[.string ⟨#[]⟩, .int .i64 0, .int .i64 0, .int .i64 0, .int .i64 0] 27)) (w.heap.size) 27 #[.string ⟨#[]⟩, .int .i64 0, .int .i64 0, .int .i64 0, .int .i64 0] := by repeat (first | exact Blk.new _ _ _ | exact Blk.new2 _ _ _ _ | exact Blk.new3 _ _ _ _ _ | exact Blk.new4 _ _ _ _ _ _ | refine Blk.alloc ?_ _)
  generalize World.alloc w (.cells #[.string ⟨#[]⟩, .int .i64 0, .int .i64 0, .int .i64 0, .int .i64 0] 27) = wX at *
  have HB := hq1
  have z0 := (hZ.cell 0).trans (show _ = some (.string ⟨#[]⟩) from rfl)
  have z1 := (hZ.cell 1).trans (show _ = some (.int .i64 0) from rfl)
  have z2 := (hZ.cell 2).trans (show _ = some (.int .i64 0) from rfl)
  have z3 := (hZ.cell 3).trans (show _ = some (.int .i64 0) from rfl)
  have z4 := (hZ.cell 4).trans (show _ = some (.int .i64 0) from rfl)
  have hz0 := hZ.lt
  go_wp2_with fail
  refine (HS.out _).mono ?_
  rintro e w2 ⟨rfl, hb2⟩
  have hq2 : Below wX.heap.size wX w2 := bth (by repeat (first | exact Below.refl _ _ | refine Below.alloc ?_ (by first | exact Nat.le_refl _ | (simp <;> omega)) _ | refine Below.setCell ?_ (by first | exact Nat.le_refl _ | (simp <;> omega)) _)) hb2
  replace HB := bth HB hq2
  replace hZ := hZ.below hq2 hZ.lt
  replace z0 := (hZ.cell 0).trans (show _ = some (.string ⟨#[]⟩) from rfl)
  replace z1 := (hZ.cell 1).trans (show _ = some (.int .i64 0) from rfl)
  replace z2 := (hZ.cell 2).trans (show _ = some (.int .i64 0) from rfl)
  replace z3 := (hZ.cell 3).trans (show _ = some (.int .i64 0) from rfl)
  replace z4 := (hZ.cell 4).trans (show _ = some (.int .i64 0) from rfl)
  have fhZ0 := hZ.frozen 0
  have fhZ1 := hZ.frozen 1
  have fhZ2 := hZ.frozen 2
  have fhZ3 := hZ.frozen 3
  have fhZ4 := hZ.frozen 4
  have yhZ := hZ.lt
  go_wp2
  clear z0 z1 z2 z3 z4
  replace HB : Below w.heap.size w (World.setCell (World.setCell (World.setCell (World.setCell (World.setCell w2 ⟨w.heap.size, 0, none⟩ (.string m)) ⟨w.heap.size, 1, none⟩ (.int .i64 nd)) ⟨w.heap.size, 2, none⟩ (.int .i64 y)) ⟨w.heap.size, 3, none⟩ (.int .i64 n)) ⟨w.heap.size, 4, none⟩ (.int .i64 a)) := (((((HB.setCell (by show w.heap.size ≤ w.heap.size; omega) (.string m) (p := ⟨w.heap.size, 0, none⟩)).setCell (by show w.heap.size ≤ w.heap.size; omega) (.int .i64 nd) (p := ⟨w.heap.size, 1, none⟩)).setCell (by show w.heap.size ≤ w.heap.size; omega) (.int .i64 y) (p := ⟨w.heap.size, 2, none⟩)).setCell (by show w.heap.size ≤ w.heap.size; omega) (.int .i64 n) (p := ⟨w.heap.size, 3, none⟩)).setCell (by show w.heap.size ≤ w.heap.size; omega) (.int .i64 a) (p := ⟨w.heap.size, 4, none⟩))
  replace hZ : Blk (World.setCell (World.setCell (World.setCell (World.setCell (World.setCell w2 ⟨w.heap.size, 0, none⟩ (.string m)) ⟨w.heap.size, 1, none⟩ (.int .i64 nd)) ⟨w.heap.size, 2, none⟩ (.int .i64 y)) ⟨w.heap.size, 3, none⟩ (.int .i64 n)) ⟨w.heap.size, 4, none⟩ (.int .i64 a)) (w.heap.size) 27 #[.string m, .int .i64 nd, .int .i64 y, .int .i64 n, .int .i64 a] := (((((hZ.set_ 0 (.string m)).set_ 1 (.int .i64 nd)).set_ 2 (.int .i64 y)).set_ 3 (.int .i64 n)).set_ 4 (.int .i64 a))
  have szW9 : ((World.setCell (World.setCell (World.setCell (World.setCell (World.setCell w2 ⟨w.heap.size, 0, none⟩ (.string m)) ⟨w.heap.size, 1, none⟩ (.int .i64 nd)) ⟨w.heap.size, 2, none⟩ (.int .i64 y)) ⟨w.heap.size, 3, none⟩ (.int .i64 n)) ⟨w.heap.size, 4, none⟩ (.int .i64 a))).heap.size = w2.heap.size := by simp [World.setCell]
  generalize World.setCell (World.setCell (World.setCell (World.setCell (World.setCell w2 ⟨w.heap.size, 0, none⟩ (.string m)) ⟨w.heap.size, 1, none⟩ (.int .i64 nd)) ⟨w.heap.size, 2, none⟩ (.int .i64 y)) ⟨w.heap.size, 3, none⟩ (.int .i64 n)) ⟨w.heap.size, 4, none⟩ (.int .i64 a) = W9 at *
  have z0 := (hZ.cell 0).trans (show _ = some (.string m) from rfl)
  have z1 := (hZ.cell 1).trans (show _ = some (.int .i64 nd) from rfl)
  have z2 := (hZ.cell 2).trans (show _ = some (.int .i64 y) from rfl)
  have z3 := (hZ.cell 3).trans (show _ = some (.int .i64 n) from rfl)
  have z4 := (hZ.cell 4).trans (show _ = some (.int .i64 a) from rfl)
  refine bodyPost_ret (v := .tuple #[.agg #[.string m, .int .i64 nd, .int .i64 y, .int .i64 n, .int .i64 a], .bool b]) (by simp [results, Tryz.results11, go_sem, z0, z1, z2, z3, z4]) rfl ?_
  exact ⟨rfl, HB⟩
end Go.Proofs.YtbnncgahepcfnaaGreatDoor
/- A report read from its lines: the program's and the reference's functions. -/
namespace Go.Proofs.YtbnncgahepcfnaaGreatDoor
open Go.RowKit Go.G9
theorem pr_len (x : Res) : (Res.cells x).length = 5 := rfl
theorem pr_one (x : Res) : ∀ u ∈ Res.cells x, u.oneCell' = true := by
  intro u hu
  simp only [Res.cells, List.mem_cons, List.not_mem_nil, or_false] at hu
  rcases hu with rfl | rfl | rfl | rfl | rfl <;> rfl
theorem pr_rds (w : World) (r : Res) (e : TypeId) : Rds 5 Res.cells (w.alloc (.cells #[.string r.motion, .int .i64 r.need, .int .i64 r.yes, .int .i64 r.no, .int .i64 r.abst] e)) (some ⟨w.heap.size, 0, none⟩) [r] := Rds.one r e
theorem got_rep {s : ByteArray} {k : Nat} {ys : List Res} (h : Got s k ys) (hl : ys.length ≤ 12) : reportB ys = true := by
  simp only [reportB, Bool.and_eq_true, decide_eq_true_eq, Bool.not_eq_true']
  refine ⟨hl, ?_⟩
  rw [List.any_eq_false]
  intro x hx
  rw [h.1 x hx]; simp
theorem got_rep_no {s : ByteArray} {k : Nat} {ys : List Res} (hl : ¬ ys.length ≤ 12) : reportB ys = false := by
  simp [reportB, hl]
theorem iSplitN_is (s : ByteArray) (c : UInt8) (hs : s.size ≤ 1048576) (n : Nat) (hn : (spB c s).length = n + 1) (w : World) (hM : Mxl w) : Calls Tryz.prog 46 #[.string s, .string ⟨#[c]⟩] w fun e w' => ∃ A m, e = .returned (.slice A (n + 1) m) ∧ n + 1 ≤ m ∧ OwnV w.heap.size 9 1 bC w' (.slice A (n + 1) m) (spB c s) ∧ Below w.heap.size w w' := by
  refine (iSplit_is s c hs w hM).mono ?_
  rintro e w' ⟨A, m, rfl, hO, hb⟩
  obtain ⟨A', m', e, hm, _, _⟩ := hO.form bC_len
  injection e with e1 e2 e3
  rw [hn] at hO hm
  exact ⟨A, m, by rw [hn], by omega, hO, hb⟩
theorem l1SplitN_is (s : ByteArray) (c : UInt8) (hs : s.size ≤ 1048576) (n : Nat) (hn : (spB c s).length = n + 1) (w : World) : Calls Tryz.prog 57 #[.string s, .int .u8 (c.toNat : Int)] w fun e w' => ∃ A m, e = .returned (.slice A (n + 1) m) ∧ n + 1 ≤ m ∧ OwnV w.heap.size 9 1 bC w' (.slice A (n + 1) m) (spB c s) ∧ Below w.heap.size w w' := by
  refine (l1SplitF_is s c hs w).mono ?_
  rintro e w' ⟨A, m, rfl, hO, hb⟩
  obtain ⟨A', m', e, hm, _, _⟩ := hO.form bC_len
  injection e with e1 e2 e3
  rw [hn] at hO hm
  exact ⟨A, m, by rw [hn], by omega, hO, hb⟩
theorem bytes_isE (a : ByteArray) : (a.toList == (⟨#[]⟩ : ByteArray).toList) = a.toList.isEmpty := by
  rw [show (⟨#[]⟩ : ByteArray).toList = [] by rw [ByteArray.toList_eq]]
  cases a.toList <;> rfl
theorem rdsN {w : World} {A : Option Addr} {k m : Nat} {B : Nat} {xs : List ByteArray} (h : OwnV B 9 1 bC w (.slice A k m) xs) : Rds 1 bC w A xs := by
  obtain ⟨A', m', e, _, hR, _⟩ := h.form bC_len
  injection e with e1 e2 e3
  subst e1; exact hR
theorem iPO_none (l : ByteArray) (h : poO l = none) (hs : l.size ≤ 1048576) (w : World) (HT : Tab w) (HE : Esy w) (HM : Mxl w) (HP : Phz w) : Calls Tryz.prog 9 #[.string l] w fun e w' => e = .returned (.tuple #[.agg #[.string ⟨#[]⟩, .int .i64 0, .int .i64 0, .int .i64 0, .int .i64 0], .bool false]) ∧ Below w.heap.size w w' := by
  have := iParseOutcome_is l hs w HT HE HM HP
  rw [h] at this; exact this
theorem iPO_some (l : ByteArray) (r : Res) (h : poO l = some r) (hs : l.size ≤ 1048576) (w : World) (HT : Tab w) (HE : Esy w) (HM : Mxl w) (HP : Phz w) : Calls Tryz.prog 9 #[.string l] w fun e w' => e = .returned (.tuple #[.agg #[.string r.motion, .int .i64 r.need, .int .i64 r.yes, .int .i64 r.no, .int .i64 r.abst], .bool true]) ∧ Below w.heap.size w w' := by
  have := iParseOutcome_is l hs w HT HE HM HP
  rw [h] at this; exact this
theorem sPO_none (l : ByteArray) (h : poO l = none) (hs : l.size ≤ 1048576) (w : World) : Calls Tryz.prog 50 #[.string l] w fun e w' => e = .returned (.tuple #[.agg #[.string ⟨#[]⟩, .int .i64 0, .int .i64 0, .int .i64 0, .int .i64 0], .bool false]) ∧ Below w.heap.size w w' := by
  have := l26Parse_is l hs w
  rw [h] at this; exact this
theorem sPO_some (l : ByteArray) (r : Res) (h : poO l = some r) (hs : l.size ≤ 1048576) (w : World) : Calls Tryz.prog 50 #[.string l] w fun e w' => e = .returned (.tuple #[.agg #[.string r.motion, .int .i64 r.need, .int .i64 r.yes, .int .i64 r.no, .int .i64 r.abst], .bool true]) ∧ Below w.heap.size w w' := by
  have := l26Parse_is l hs w
  rw [h] at this; exact this
set_option maxHeartbeats 8000000 in
set_option maxRecDepth 100000 in
theorem iParseReport_is (s : ByteArray) (hs : s.size ≤ 1048576) (w : World) (HT : Tab w) (HE : Esy w) (HM : Mxl w) (HP : Phz w) : Calls Tryz.prog 16 #[.string s] w fun e w' => ∃ A m, e = .returned (.tuple #[.slice A (prL s).length m, .bool (prB s)]) ∧ OwnV w.heap.size 27 5 Res.cells w' (.slice A (prL s).length m) (prL s) ∧ Below w.heap.size w w' := by
  obtain ⟨i0, hi, hz0, hz1, hz2⟩ := info_parts info_Res
  have L0 : Hid (0 < (spB 10 s).length) := Lib.hid (spB_ne 10 s)
  obtain ⟨n, hn⟩ : ∃ n, (spB 10 s).length = n + 1 := ⟨(spB 10 s).length - 1, by have := L0.out; omega⟩
  have HN := Lib.hid hn; clear hn
  have HTE := Lib.hid (⟨HT, HE, HM, HP⟩ : Tab w ∧ Esy w ∧ Mxl w ∧ Phz w)
  clear HT HE HP
  go_enter Tryz.func16, Tryz.ntmps16
  go_wp2_with fail
  refine (iSplitN_is s 10 hs n HN.out _ (HM.below (by repeat (first | exact Below.refl _ _ | refine Below.alloc ?_ (by first | exact Nat.le_refl _ | (simp <;> omega)) _ | refine Below.setCell ?_ (by first | exact Nat.le_refl _ | (simp <;> omega)) _)))).mono ?_
  rintro e w1 ⟨A4, c4, rfl, hcap, O4, hb1⟩
  have hq1 : Below w.heap.size w w1 := bth (by repeat (first | exact Below.refl _ _ | refine Below.alloc ?_ (by first | exact Nat.le_refl _ | (simp <;> omega)) _ | refine Below.setCell ?_ (by first | exact Nat.le_refl _ | (simp <;> omega)) _)) hb1
  have HB : Below w.heap.size w w1 := hq1
  replace HM := HM.below hq1
  have Q4 := rdsN O4
  clear O4
  obtain ⟨bq, oq, y0, rfl, hbq, _, _⟩ := Q4.at_ (Below.refl _ _) (k := 0) L0.out
  have HQ := Lib.hid Q4; clear Q4
  by_cases h13 : n ≤ 12
  case neg =>
    have HNO : Hid (¬ ∃ xs, isRep s xs) := Lib.hid (fun ⟨xs, h⟩ => by have := rep_few h; have := HN.out; omega)
    go_wp2
    go_ret2
    rw [(prL_no HNO.out).1, (prL_no HNO.out).2]
    exact ⟨none, 0, rfl, OwnV.nil, HB⟩
  go_wp2
  go_loopw [2, 3, 5, 22] (fun r2 r3 out i wr => ∃ (k : Nat) (ys : List Res), r2 = .slice none 0 0 ∧ r3 = .bool false ∧ i = .int .i64 k ∧ k ≤ n ∧ Got s k ys ∧ OwnV w1.heap.size 27 5 Res.cells wr out ys ∧ Below w1.heap.size w1 wr) (fun _ _ _ i _ => n - (intOf i).toNat)
  case atStart => exact ⟨0, [], rfl, rfl, rfl, Nat.zero_le _, got_zero s, OwnV.made _ (Nat.le_refl _) _, bl1 _ _⟩
  case round =>
    obtain ⟨k, ys, rfl, rfl, rfl, hk, hG, hO, hb⟩ := hrel
    have hyl := got_len hG (by have := HN.out; omega)
    have HG := Lib.hid hG; have HO := Lib.hid hO; clear hG hO
    have HBW : Below w.heap.size w wr := bth HB hb
    have s1 := hb.size
    by_cases hlt : k < n
    · obtain ⟨b', o', l, e', hbl, hl, hcl⟩ := HQ.out.at_ hb (k := k) (by have := HN.out; omega)
      simp only [Option.some.injEq, Addr.mk.injEq, and_true] at e'
      obtain ⟨rfl, rfl⟩ := e'
      have hls : l.size ≤ 1048576 := Nat.le_trans (spB_size hl) hs
      have q := hcl 0 _ rfl (Kin.self _)
      simp only [Nat.mul_one, Nat.add_zero, Kin.self] at q
      have HL := Lib.hid hl; clear hl hcl
      cases ho : poO l with
      | none =>
        have HNO := Lib.hid (got_bad HL.out (by have := HN.out; omega) ho)
        have HO1 := Lib.hid ho; clear ho
        go_wp2_with fail
        refine (iPO_none l HO1.out hls _ (HTE.out.1.below HBW) (HTE.out.2.1.below HBW) (HTE.out.2.2.1.below HBW) (HTE.out.2.2.2.below HBW)).mono ?_
        rintro e w2 ⟨rfl, hb2⟩
        have s2 := hb2.size
        go_wp2
        go_ret2
        rw [(prL_no HNO.out).1, (prL_no HNO.out).2]
        exact ⟨none, 0, rfl, OwnV.nil, by have hbz := bth HBW hb2; first | exact bth hbz (bl1 _ _) | exact bth hbz (bl2 _ _ _)⟩
      | some r =>
        have HO1 := Lib.hid ho; clear ho
        go_wp2_with fail
        refine (iPO_some l r HO1.out hls _ (HTE.out.1.below HBW) (HTE.out.2.1.below HBW) (HTE.out.2.2.1.below HBW) (HTE.out.2.2.2.below HBW)).mono ?_
        rintro e w2 ⟨rfl, hb2⟩
        have s2 := hb2.size
        clear q
        have HB := bth HBW hb2
        go_upto_region 9 with fail
        have hq2 : Below w2.heap.size w2 (World.alloc w2 (.cells #[.string r.motion, .int .i64 r.need, .int .i64 r.yes, .int .i64 r.no, .int .i64 r.abst] 27)) := bl1 w2 _
        have hM : Blk (World.alloc w2 (.cells #[.string r.motion, .int .i64 r.need, .int .i64 r.yes, .int .i64 r.no, .int .i64 r.abst] 27)) (w2.heap.size) 27 #[.string r.motion, .int .i64 r.need, .int .i64 r.yes, .int .i64 r.no, .int .i64 r.abst] := by repeat (first | exact Blk.new _ _ _ | exact Blk.new2 _ _ _ _ | exact Blk.new3 _ _ _ _ _ | exact Blk.new4 _ _ _ _ _ _ | refine Blk.alloc ?_ _)
        generalize World.alloc w2 (.cells #[.string r.motion, .int .i64 r.need, .int .i64 r.yes, .int .i64 r.no, .int .i64 r.abst] 27) = W8 at *
        replace HB := bth HB hq2
        have m0 := (hM.cell 0).trans (show _ = some (.string r.motion) from rfl)
        have m1 := (hM.cell 1).trans (show _ = some (.int .i64 r.need) from rfl)
        have m2 := (hM.cell 2).trans (show _ = some (.int .i64 r.yes) from rfl)
        have m3 := (hM.cell 3).trans (show _ = some (.int .i64 r.no) from rfl)
        have m4 := (hM.cell 4).trans (show _ = some (.int .i64 r.abst) from rfl)
        have h8 : Below w1.heap.size w1 W8 := bth (bth hb hb2) hq2
        have HO8 := Lib.hid ((HO.out.later hb2).later hq2)
        have s8 := hq2.size
        go_wp2_with ((at_builtin; refine wpList_app1 rfl _ _ 34 rfl w1.heap.size 27 i0 _ 5 48 Tryz.underlying34 hi hz0 hz1 hz2 rfl (by decide) Res.cells pr_len pr_one _ ys rfl (HO8.out.alloc _) ⟨W8.heap.size, 0, none⟩ 1 r rfl (pr_rds _ r _) (by unfold maxLen; omega) (by omega) (by skip; simp; omega) ?_; intro v4 w4 hO4 hg4 ha4))
        have hB4 : Below w1.heap.size w1 w4 := (h8.alloc (by omega) _).grown hg4 (by simp; omega) (fun q hq => (HO8.out.lt q hq).1)
        go_roundw
        case rel => exact ⟨k + 1, ys ++ [r], rfl, rfl, by go_num, by omega, got_step HG.out HL.out HO1.out, hO4, hB4⟩
        case measure => simp [intOf]; omega
    · obtain rfl : k = n := by omega
      have HR := Lib.hid (got_rep HG.out (by omega))
      clear hyl
      obtain ⟨Y, yc, rfl, _, RY, _⟩ := HO.out.form pr_len
      have HRY := Lib.hid RY; clear RY
      go_wp2_with fail
      refine (reportText_is Y yc ys HR.out _ HRY.out ⟨HTE.out.1.below HBW, (HTE.out.2.2.2.below HBW).phr⟩).mono ?_
      rintro e w2 ⟨rfl, hb2⟩
      have s2 := hb2.size
      by_cases he : repTxt ys = s
      · have hcmp : ((repTxt ys).toList == s.toList) = true := beq_iff_eq.2 (by rw [he])
        have HY : Hid (isRep s ys) := Lib.hid ⟨HR.out, he⟩
        clear he
        go_wp2
        go_ret2
        rw [(prL_yes HY.out).1, (prL_yes HY.out).2]
        exact ⟨Y, yc, rfl, (HO.out.later hb2).base (by have := HB.size; omega), bth HBW hb2⟩
      · have hcmp := bytes_differ he
        have HNO : Hid (¬ ∃ xs, isRep s xs) := Lib.hid (fun ⟨xs, hx⟩ => he (got_all HN.out HG.out hx ▸ hx.2))
        clear he
        go_wp2
        go_ret2
        rw [(prL_no HNO.out).1, (prL_no HNO.out).2]
        exact ⟨none, 0, rfl, OwnV.nil, bth HBW hb2⟩
end Go.Proofs.YtbnncgahepcfnaaGreatDoor
/- A report read from its lines: the reference's function. -/
namespace Go.Proofs.YtbnncgahepcfnaaGreatDoor
open Go.RowKit Go.G9
set_option maxHeartbeats 8000000 in
set_option maxRecDepth 100000 in
theorem sParseReport_is (s : ByteArray) (hs : s.size ≤ 1048576) (w : World) : Calls Tryz.prog 19 #[.string s] w fun e w' => ∃ A m, e = .returned (.tuple #[.slice A (prL s).length m, .bool (prB s)]) ∧ OwnV w.heap.size 27 5 Res.cells w' (.slice A (prL s).length m) (prL s) ∧ Below w.heap.size w w' := by
  obtain ⟨i0, hi, hz0, hz1, hz2⟩ := info_parts info_Res
  have L0 : Hid (0 < (spB 10 s).length) := Lib.hid (spB_ne 10 s)
  obtain ⟨n, hn⟩ : ∃ n, (spB 10 s).length = n + 1 := ⟨(spB 10 s).length - 1, by have := L0.out; omega⟩
  have hnb : n ≤ 1048576 := by have := spB_len (c := 10) (s := s); omega
  obtain ⟨ln, hln⟩ : ∃ x, (spB 10 s)[n]? = some x := ⟨_, List.getElem?_eq_getElem (by omega)⟩
  have HN := Lib.hid hn; have HLN := Lib.hid hln; clear hn hln
  go_enter Tryz.func19, Tryz.ntmps19
  go_wp2_with fail
  refine (l1SplitN_is s 10 hs n HN.out _).mono ?_
  rintro e w1 ⟨A4, c4, rfl, hcap, O4, hb1⟩
  have hq1 : Below w.heap.size w w1 := bth (by repeat (first | exact Below.refl _ _ | refine Below.alloc ?_ (by first | exact Nat.le_refl _ | (simp <;> omega)) _ | refine Below.setCell ?_ (by first | exact Nat.le_refl _ | (simp <;> omega)) _)) hb1
  have HB : Below w.heap.size w w1 := hq1
  have hO4lo := O4.lt
  have hO0 : OwnV w.heap.size 27 5 Res.cells w1 (.slice (some ⟨w.heap.size, 0, none⟩) 0 0) ([] : List Res) := (OwnV.made w (Nat.le_refl _) _).later hb1
  have Q4 := rdsN O4
  clear O4
  have sw1 := HB.size
  obtain ⟨bq, oq, y0, rfl, hbq, _, _⟩ := Q4.at_ (Below.refl _ _) (k := 0) L0.out
  have hbq2 := (hO4lo bq rfl).1
  simp at hbq2
  have hne0 : ∀ q, (Value.slice (some ⟨w.heap.size, 0, none⟩) 0 0).ownBlock = some q → q ≠ bq := fun q hq e => by have := Option.some.inj hq; simp at this; omega
  clear hO4lo
  have HQ := Lib.hid Q4; clear Q4
  by_cases hs1 : s.size ≤ 1000
  case neg =>
    have HNO : Hid (¬ ∃ xs, isRep s xs) := Lib.hid (fun ⟨xs, h⟩ => hs1 (rep_size h))
    go_wp2
    go_ret2
    rw [(prL_no HNO.out).1, (prL_no HNO.out).2]
    exact ⟨_, 0, rfl, hO0, HB⟩
  obtain ⟨b', o', l', e', hbl, hl, hcl⟩ := HQ.out.at_ (Below.refl _ _) (k := n) (by have := HN.out; omega)
  simp only [Option.some.injEq, Addr.mk.injEq, and_true] at e'
  obtain ⟨rfl, rfl⟩ := e'
  obtain rfl : ln = l' := Option.some.inj (HLN.out.symm.trans hl)
  have qn := hcl 0 _ rfl (Kin.self _)
  simp only [Nat.mul_one, Nat.add_zero, Kin.self] at qn
  clear hl hcl hbl
  by_cases hle : ln = ⟨#[]⟩
  case neg =>
    have HNO : Hid (¬ ∃ xs, isRep s xs) := Lib.hid (rep_last HN.out HLN.out hle)
    have hcmp := (bytes_isE ln).symm.trans (bytes_differ hle)
    go_wp2
    go_ret2
    rw [(prL_no HNO.out).1, (prL_no HNO.out).2]
    exact ⟨_, 0, rfl, hO0, HB⟩
  have hcmp : ln.toList.isEmpty = true := (bytes_isE ln).symm.trans (beq_iff_eq.2 (by rw [hle]))
  have HLE := Lib.hid hle; clear hle
  go_wp2
  clear qn hcmp
  go_loopw [2, 3, 4, 6] (fun r2 r3 out i wr => ∃ (k : Nat) (ys : List Res), r2 = .slice none 0 0 ∧ r3 = .bool false ∧ i = .int .i64 k ∧ k ≤ n ∧ Got s k ys ∧ OwnV w.heap.size 27 5 Res.cells wr out ys ∧ Rds 1 bC wr (some ⟨bq, oq, none⟩) (spB 10 s) ∧ (∀ q, out.ownBlock = some q → q ≠ bq) ∧ w1.heap.size ≤ wr.heap.size ∧ Below w.heap.size w wr) (fun _ _ _ i _ => n - (intOf i).toNat)
  case atStart => exact ⟨0, [], rfl, rfl, rfl, Nat.zero_le _, got_zero s, hO0, HQ.out, hne0, Nat.le_refl _, HB⟩
  case round =>
    clear hO0 hne0
    obtain ⟨k, ys, rfl, rfl, rfl, hk, hG, hO, hQr, hne, s1, HBW⟩ := hrel
    have hyl := got_len hG (by have := HN.out; omega)
    have HG := Lib.hid hG; have HO := Lib.hid hO; clear hG hO
    have HQr := Lib.hid hQr; have HNE := Lib.hid hne; clear hQr hne
    by_cases hlt : k < n
    · obtain ⟨b', o', l, e', hbl, hl, hcl⟩ := HQr.out.at_ (Below.refl _ _) (k := k) (by have := HN.out; omega)
      simp only [Option.some.injEq, Addr.mk.injEq, and_true] at e'
      obtain ⟨rfl, rfl⟩ := e'
      have hls : l.size ≤ 1048576 := Nat.le_trans (spB_size hl) hs
      have q := hcl 0 _ rfl (Kin.self _)
      simp only [Nat.mul_one, Nat.add_zero, Kin.self] at q
      have HL := Lib.hid hl; clear hl hcl
      cases ho : poO l with
      | none =>
        have HNO := Lib.hid (got_bad HL.out (by have := HN.out; omega) ho)
        have HO1 := Lib.hid ho; clear ho
        go_wp2_with fail
        refine (sPO_none l HO1.out hls _).mono ?_
        rintro e w2 ⟨rfl, hb2⟩
        have s2 := hb2.size
        go_wp2
        go_ret2
        rw [(prL_no HNO.out).1, (prL_no HNO.out).2]
        exact ⟨some ⟨_, 0, none⟩, 0, rfl, by have hm := OwnV.made (f := Res.cells) (sz := 5) (B := w.heap.size) (w2.alloc (.cells #[.string ⟨#[]⟩, .int .i64 0, .int .i64 0, .int .i64 0, .int .i64 0] 27)) (by have := HBW.size; simp; omega) 27; simpa using hm, by have hbz := bth HBW hb2; first | exact bth hbz (bl1 _ _) | exact bth hbz (bl2 _ _ _)⟩
      | some r =>
        have HO1 := Lib.hid ho; clear ho
        go_wp2_with fail
        refine (sPO_some l r HO1.out hls _).mono ?_
        rintro e w2 ⟨rfl, hb2⟩
        have s2 := hb2.size
        clear q
        have HB := bth HBW hb2
        go_upto_region 9 with fail
        have hq2 : Below w2.heap.size w2 (World.alloc w2 (.cells #[.string r.motion, .int .i64 r.need, .int .i64 r.yes, .int .i64 r.no, .int .i64 r.abst] 27)) := bl1 w2 _
        have hM : Blk (World.alloc w2 (.cells #[.string r.motion, .int .i64 r.need, .int .i64 r.yes, .int .i64 r.no, .int .i64 r.abst] 27)) (w2.heap.size) 27 #[.string r.motion, .int .i64 r.need, .int .i64 r.yes, .int .i64 r.no, .int .i64 r.abst] := by repeat (first | exact Blk.new _ _ _ | exact Blk.new2 _ _ _ _ | exact Blk.new3 _ _ _ _ _ | exact Blk.new4 _ _ _ _ _ _ | refine Blk.alloc ?_ _)
        generalize World.alloc w2 (.cells #[.string r.motion, .int .i64 r.need, .int .i64 r.yes, .int .i64 r.no, .int .i64 r.abst] 27) = W8 at *
        replace HB := bth HB hq2
        have m0 := (hM.cell 0).trans (show _ = some (.string r.motion) from rfl)
        have m1 := (hM.cell 1).trans (show _ = some (.int .i64 r.need) from rfl)
        have m2 := (hM.cell 2).trans (show _ = some (.int .i64 r.yes) from rfl)
        have m3 := (hM.cell 3).trans (show _ = some (.int .i64 r.no) from rfl)
        have m4 := (hM.cell 4).trans (show _ = some (.int .i64 r.abst) from rfl)
        have h8 := bth hb2 hq2
        have HO8 := Lib.hid ((HO.out.later hb2).later hq2)
        have s8 := hq2.size
        go_wp2_with ((at_builtin; refine wpList_app1 rfl _ _ 34 rfl w.heap.size 27 i0 _ 5 48 Tryz.underlying34 hi hz0 hz1 hz2 rfl (by decide) Res.cells pr_len pr_one _ ys rfl (HO8.out.alloc _) ⟨W8.heap.size, 0, none⟩ 1 r rfl (pr_rds _ r _) (by unfold maxLen; omega) (by omega) (by have := HB.size; simp; omega) ?_; intro v4 w4 hO4 hg4 ha4))
        have hB5 : Below w.heap.size w w4 := (HB.alloc (by have := HB.size; omega) _).grown hg4 (by have := HB.size; simp; omega) (fun q hq => (HO8.out.lt q hq).1)
        have hQ4 : Rds 1 bC w4 (some ⟨bq, oq, none⟩) (spB 10 s) := ((HQr.out.below h8).alloc _).grown hg4 (fun ad he e => by cases he; exact HNE.out _ e.symm rfl)
        have hN4 : ∀ q, v4.ownBlock = some q → q ≠ bq := fun q hq e => by
          rcases ha4 with ha | ha
          · exact HNE.out q (ha ▸ hq) e
          · rw [ha] at hq; have := Option.some.inj hq; simp at this; omega
        have s4 := hg4.size
        simp at s4
        go_roundw
        case rel => exact ⟨k + 1, ys ++ [r], rfl, rfl, by go_num, by omega, got_step HG.out HL.out HO1.out, hO4, hQ4, hN4, by omega, hB5⟩
        case measure => simp [intOf]; omega
    · obtain rfl : k = n := by omega
      have hyl2 : ys.length ≤ 1048576 := by omega
      clear hyl
      obtain ⟨Y, yc, rfl, _, RY, _⟩ := HO.out.form pr_len
      have HRY := Lib.hid RY; clear RY
      cases hr : reportB ys
      · have HNO : Hid (¬ ∃ xs, isRep s xs) := Lib.hid (fun ⟨xs, hx⟩ => by
          have := got_all HN.out HG.out hx
          subst this
          have h1 := hx.1
          rw [hr] at h1; cases h1)
        have HR := Lib.hid hr; clear hr
        go_wp2_with fail
        refine (l26Good_is Y yc ys hyl2 _ HR.out _ HRY.out).mono ?_
        rintro e w2 ⟨rfl, hb2⟩
        have s2 := hb2.size
        go_wp2
        go_ret2
        rw [(prL_no HNO.out).1, (prL_no HNO.out).2]
        exact ⟨some ⟨_, 0, none⟩, 0, rfl, OwnV.made _ (by have := HBW.size; omega) _, bth (bth HBW hb2) (bl1 _ _)⟩
      · have HY : Hid (isRep s ys) := Lib.hid (got_end HN.out HG.out (by rw [HLN.out, HLE.out]) hr)
        have HR := Lib.hid hr; clear hr
        go_wp2_with fail
        refine (l26Good_is Y yc ys hyl2 _ HR.out _ HRY.out).mono ?_
        rintro e w2 ⟨rfl, hb2⟩
        have s2 := hb2.size
        go_wp2
        go_ret2
        rw [(prL_yes HY.out).1, (prL_yes HY.out).2]
        exact ⟨Y, yc, rfl, HO.out.later hb2, bth HBW hb2⟩
end Go.Proofs.YtbnncgahepcfnaaGreatDoor
/- The law of ParseReport: the program's answer is the reference's, and the result is its own memory. -/
namespace Go.Proofs.YtbnncgahepcfnaaGreatDoor
open Go.RowKit Go.G9
/-- What the tables and the limits of the program must be for a report to be read. -/
def Tbz (w : World) : Prop := Tab w ∧ Esy w ∧ Mxl w ∧ Phz w
theorem Tbz.below {w w' : World} (h : Tbz w) (hb : Below w.heap.size w w') : Tbz w' := ⟨h.1.below hb, h.2.1.below hb, h.2.2.1.below hb, h.2.2.2.below hb⟩
theorem iParseReportZ_is (s : ByteArray) (hs : s.size ≤ 1048576) (w : World) (HT : Tbz w) : Calls Tryz.prog 16 #[.string s] w fun e w' => ∃ A m, e = .returned (.tuple #[.slice A (prL s).length m, .bool (prB s)]) ∧ OwnV w.heap.size 27 5 Res.cells w' (.slice A (prL s).length m) (prL s) ∧ Below w.heap.size w w' := iParseReport_is s hs w HT.1 HT.2.1 HT.2.2.1 HT.2.2.2
end Go.Proofs.YtbnncgahepcfnaaGreatDoor
/- Two sides drawn by the cursor. -/
namespace Go.G9
open Go.RowKit
/-- Numbers that lie in the blocks from lo to hi. -/
structure Seg (lo hi : Nat) (w : World) (A : Option Addr) (c : Nat) (xs : List Int) : Prop where
  rds : Rds 1 intC w A xs
  nil : A = none → xs = [] ∧ c = 0
  rng : ∀ ad, A = some ad → 0 < xs.length → lo ≤ ad.block ∧ ad.block < hi
theorem Seg.kept {lo hi : Nat} {w w' : World} {A : Option Addr} {c : Nat} {xs : List Int} (h : Seg lo hi w A c xs) {row : Option Nat} (hg : w.grownBy w' row) (hr : ∀ k, row = some k → k < lo ∨ hi ≤ k) : Seg lo hi w' A c xs := by
  refine ⟨?_, h.nil, h.rng⟩
  by_cases hn : 0 < xs.length
  · exact h.rds.grown hg (fun ad ha e => by
      have h1 := h.rng ad ha hn
      rcases hr _ e.symm with h2 | h2 <;> omega)
  · have : xs = [] := List.length_eq_zero_iff.1 (by omega)
    subst this; exact Rds.nil
theorem Seg.of {B : Nat} {e : TypeId} {w : World} {A : Option Addr} {c : Nat} {xs : List Int} (h : OwnV B e 1 intC w (.slice A xs.length c) xs) : Seg B w.heap.size w A c xs :=
  ⟨h.rds, h.nilOk, fun ad ha _ => h.lt ad.block (by rw [ha]; rfl)⟩
theorem Seg.wide {lo hi lo' hi' : Nat} {w : World} {A : Option Addr} {c : Nat} {xs : List Int} (h : Seg lo hi w A c xs) (h1 : lo' ≤ lo) (h2 : hi ≤ hi') : Seg lo' hi' w A c xs :=
  ⟨h.rds, h.nil, fun ad ha hn => by have := h.rng ad ha hn; omega⟩
theorem grown_row2 {w w1 w2 : World} {p : Nat} {row : Option Nat} (h : w.grownBy w1 (some p)) (k : w1.grownBy w2 row) (hr : ∀ g, row = some g → w.heap.size ≤ g) : w.grownBy w2 (some p) :=
  ⟨k.os.trans h.os, k.tape.trans h.tape, k.output.trans h.output, Nat.le_trans h.size k.size, fun i hi hne =>
    (k.block i (Nat.lt_of_lt_of_le hi h.size) (fun e => by have := hr i e.symm; omega)).trans (h.block i hi hne)⟩
/-- Two slices of the call's own. -/
structure Two (B : Nat) (e : TypeId) (w : World) (y n : Value) (ys ns : List Int) : Prop where
  oy : OwnV B e 1 intC w y ys
  on : OwnV B e 1 intC w n ns
  ne : Ne2 y n
section
variable {B : Nat} {e : TypeId} {w w' : World} {y n : Value} {ys ns : List Int}
theorem Two.kept (h : Two B e w y n ys ns) {p : Nat} (hg : w.grownBy w' (some p)) (hp : p < B) : Two B e w' y n ys ns :=
  ⟨h.oy.kept hg (fun k hk e => by have := (h.oy.lt k hk).1; have := Option.some.inj e; omega), h.on.kept hg (fun k hk e => by have := (h.on.lt k hk).1; have := Option.some.inj e; omega), h.ne⟩
theorem Two.alloc (h : Two B e w y n ys ns) (o : Obj) : Two B e (w.alloc o) y n ys ns := ⟨h.oy.alloc o, h.on.alloc o, h.ne⟩
theorem Two.addY (h : Two B e w y n ys ns) {y' : Value} {x : Int} (h1 : OwnV B e 1 intC w' y' (ys ++ [x])) (hg : w.grownBy w' y.ownBlock) (ha : y'.ownBlock = y.ownBlock ∨ y'.ownBlock = some w.heap.size) : Two B e w' y' n (ys ++ [x]) ns :=
  ⟨h1, h.on.ne hg h.ne, h.ne.step (fun k hk => (h.on.lt k hk).2) ha⟩
theorem Two.addN (h : Two B e w y n ys ns) {n' : Value} {x : Int} (h1 : OwnV B e 1 intC w' n' (ns ++ [x])) (hg : w.grownBy w' n.ownBlock) (ha : n'.ownBlock = n.ownBlock ∨ n'.ownBlock = some w.heap.size) : Two B e w' y n' ys (ns ++ [x]) :=
  ⟨h.oy.ne hg h.ne.symm, h1, (h.ne.symm.step (fun k hk => (h.oy.lt k hk).2) ha).symm⟩
end
end Go.G9
namespace Go.Proofs.YtbnncgahepcfnaaGreatDoor
open Go.RowKit Go.G9
theorem Cur.row {w w' : World} {p : Nat} {A : Option Addr} {c : Nat} {cs : List UInt8} {N : Nat} (h : Cur w p A c cs N) {row : Option Nat} (hg : w.grownBy w' row) (hr : ∀ k, row = some k → p < k) : Cur w' p A c cs N := by
  obtain ⟨⟨i, s, hB, h0, h1⟩, hR, hlo⟩ := h
  refine ⟨⟨i, s, (hg.block p hB.lt (fun e => by have := hr p e.symm; omega)).trans hB, h0, h1⟩, ?_, hlo⟩
  by_cases hn : 0 < cs.length
  · exact hR.grown hg (fun ad ha e => by have h1 := hlo ad ha hn; have h2 := hr _ e.symm; omega)
  · have : cs = [] := List.length_eq_zero_iff.1 (by omega)
    subst this; exact Rds.nil
theorem built_rdsV (w : World) (xs : List Int) (hm : xs.length ≤ maxLen) : Rds 1 intC (w.alloc (.cells (xs.flatMap intC).toArray 3)) (some ⟨w.heap.size, 0, none⟩) xs := (OwnV.built (B := w.heap.size) (f := intC) w xs 3 (Nat.le_refl _) hm intC_len).rds (hf := intC_len)
end Go.Proofs.YtbnncgahepcfnaaGreatDoor
/- A decided question drawn by the cursor. -/
namespace Go.Proofs.YtbnncgahepcfnaaGreatDoor
open Go.RowKit Go.G9
end Go.Proofs.YtbnncgahepcfnaaGreatDoor
