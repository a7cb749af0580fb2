/- A result read from its line: the reference's own function. -/
import Derived.Test.YtbnncgahepcfnaaGreatDoorRl15
import Derived.Test.YtbnncgahepcfnaaGreatDoorRl8
import Derived.Test.YtbnncgahepcfnaaGreatDoorRl12
namespace Go.Proofs.YtbnncgahepcfnaaGreatDoor
open Go.RowKit Go.G9
theorem po_cuts {s : ByteArray} {r : Res} {p0 x0 x1 x3 : ByteArray} (h : isR s r) (hp : (spB 44 s)[0]? = some p0) (h0 : (spB 32 p0)[0]? = some x0) (h1 : (spB 32 p0)[1]? = some x1) (h3 : (spB 32 p0)[3]? = some x3) :
    2 ≤ x0.size ∧ (∀ m, x0.size = m + 1 → x0.extract 0 m = r.motion) ∧ rdI x1 = r.yes ∧ rdI x3 = r.no ∧ (((spB 32 p0).length = 4 ∧ r.abst = 0) ∨ ((spB 32 p0).length = 7 ∧ ∀ x5, (spB 32 p0)[5]? = some x5 → rdI x5 = r.abst)) := by
  obtain ⟨_, q0, q1, q2, w0, w1, w2, w3, e1, e2, e3, e4, e5, e6⟩ := po_words h
  rw [e1] at hp
  simp only [List.getElem?_cons_zero, Option.some.injEq] at hp
  subst hp
  rcases e6 with ⟨e6, e7⟩ | ⟨w4, w5, w6, e6, e7⟩
  · rw [e6] at h0 h1 h3
    simp only [List.getElem?_cons_succ, List.getElem?_cons_zero, Option.some.injEq] at h0 h1 h3
    subst h0 h1 h3
    exact ⟨e2, e3, e4, e5, .inl ⟨by rw [e6]; rfl, e7⟩⟩
  · rw [e6] at h0 h1 h3
    simp only [List.getElem?_cons_succ, List.getElem?_cons_zero, Option.some.injEq] at h0 h1 h3
    subst h0 h1 h3
    refine ⟨e2, e3, e4, e5, .inr ⟨by rw [e6]; rfl, fun x5 h5 => ?_⟩⟩
    rw [e6] at h5
    simp only [List.getElem?_cons_succ, List.getElem?_cons_zero, Option.some.injEq] at h5
    subst h5; exact e7
theorem po_parts {s : ByteArray} {r : Res} (h : isR s r) : s.size ≤ 100 ∧ (spB 44 s).length = 3 := by
  obtain ⟨h1, q0, q1, q2, w0, w1, w2, w3, e1, _⟩ := po_words h
  exact ⟨h1, by rw [e1]; rfl⟩
theorem po_head {s : ByteArray} {r : Res} {p0 : ByteArray} (h : isR s r) (hp : (spB 44 s)[0]? = some p0) : (spB 32 p0).length = 4 ∨ (spB 32 p0).length = 7 := by
  obtain ⟨_, q0, q1, q2, w0, w1, w2, w3, e1, e2, e3, e4, e5, e6⟩ := po_words h
  rw [e1] at hp
  simp only [List.getElem?_cons_zero, Option.some.injEq] at hp
  subst hp
  rcases e6 with ⟨e6, _⟩ | ⟨w4, w5, w6, e6, _⟩
  · left; rw [e6]; rfl
  · right; rw [e6]; rfl
def pqS (x0 : ByteArray) : MkSpec Nat where
  par := fun _ => []
  val := fun n p => match n with
    | 6 => .int .i64 (x0.size : Int)
    | 10 => .pointer (some ⟨p, 0, none⟩)
    | _ => undef
  post := fun n _ p V0 V => match n with
    | 10 => V0.heap.size = p ∧ Blk V p 27 #[.string ⟨#[]⟩, .int .i64 0, .int .i64 0, .int .i64 0, .int .i64 0]
    | _ => True
theorem spB_ne (c : UInt8) (s : ByteArray) : 0 < (spB c s).length := by
  unfold spB; rw [List.length_map]
  have := spl_ne c s.data.toList
  cases h : spl c s.data.toList with
  | nil => exact absurd h this
  | cons _ _ => simp
set_option maxHeartbeats 16000000 in
set_option maxRecDepth 100000 in
theorem l26Parse_is (s : ByteArray) (hs : s.size ≤ 1048576) (w : World) : Calls Tryz.prog 50 #[.string s] w fun e w' => e = .returned (resV (poO s)) ∧ Below w.heap.size w w' := by
  obtain ⟨p0, hp0⟩ : ∃ x, (spB 44 s)[0]? = some x := ⟨_, List.getElem?_eq_getElem (spB_ne 44 s)⟩
  have hps := spB_size hp0
  obtain ⟨x0, h0⟩ : ∃ x, (spB 32 p0)[0]? = some x := ⟨_, List.getElem?_eq_getElem (spB_ne 32 p0)⟩
  have hx0s := spB_size h0
  have LP : Hid (0 < (spB 44 s).length) := Lib.hid (spB_ne 44 s)
  have L0 : Hid (0 < (spB 32 p0).length) := Lib.hid (spB_ne 32 p0)
  have HXP := Lib.hid hp0; have HX0 := Lib.hid h0
  have hps2 : p0.size ≤ 1048576 := by omega
  have hx0m : x0.size ≤ 1048576 := by omega
  clear hps hx0s
  by_cases h100 : s.size ≤ 100
  case neg =>
    have HNO : Hid (¬ ∃ r, isR s r) := Lib.hid (fun ⟨r, h⟩ => h100 (po_parts h).1)
    go_enter Tryz.func50, Tryz.ntmps50
    go_upto_region 2 with fail
    have hq1 : Below w.heap.size w (World.alloc (World.alloc w (.cells #[.string ⟨#[]⟩, .int .i64 0, .int .i64 0, .int .i64 0, .int .i64 0] 27)) (.cells #[.string ⟨#[]⟩, .int .i64 0, .int .i64 0, .int .i64 0, .int .i64 0] 27)) := bl2 w _ _
    have hZ : Blk (World.alloc (World.alloc w (.cells #[.string ⟨#[]⟩, .int .i64 0, .int .i64 0, .int .i64 0, .int .i64 0] 27)) (.cells #[.string ⟨#[]⟩, .int .i64 0, .int .i64 0, .int .i64 0, .int .i64 0] 27)) (w.heap.size) 27 #[.string ⟨#[]⟩, .int .i64 0, .int .i64 0, .int .i64 0, .int .i64 0] := by repeat (first | exact Blk.new _ _ _ | exact Blk.new2 _ _ _ _ | exact Blk.new3 _ _ _ _ _ | exact Blk.new4 _ _ _ _ _ _ | refine Blk.alloc ?_ _)
    have hO : Blk (World.alloc (World.alloc w (.cells #[.string ⟨#[]⟩, .int .i64 0, .int .i64 0, .int .i64 0, .int .i64 0] 27)) (.cells #[.string ⟨#[]⟩, .int .i64 0, .int .i64 0, .int .i64 0, .int .i64 0] 27)) (w.heap.size + 1) 27 #[.string ⟨#[]⟩, .int .i64 0, .int .i64 0, .int .i64 0, .int .i64 0] := by repeat (first | exact Blk.new _ _ _ | exact Blk.new2 _ _ _ _ | exact Blk.new3 _ _ _ _ _ | exact Blk.new4 _ _ _ _ _ _ | refine Blk.alloc ?_ _)
    generalize World.alloc (World.alloc w (.cells #[.string ⟨#[]⟩, .int .i64 0, .int .i64 0, .int .i64 0, .int .i64 0] 27)) (.cells #[.string ⟨#[]⟩, .int .i64 0, .int .i64 0, .int .i64 0, .int .i64 0] 27) = wX at *
    have HB := hq1
    have z0 := (hZ.cell 0).trans (show _ = some (.string ⟨#[]⟩) from rfl)
    have z1 := (hZ.cell 1).trans (show _ = some (.int .i64 0) from rfl)
    have z2 := (hZ.cell 2).trans (show _ = some (.int .i64 0) from rfl)
    have z3 := (hZ.cell 3).trans (show _ = some (.int .i64 0) from rfl)
    have z4 := (hZ.cell 4).trans (show _ = some (.int .i64 0) from rfl)
    have o0 := (hO.cell 0).trans (show _ = some (.string ⟨#[]⟩) from rfl)
    have o1 := (hO.cell 1).trans (show _ = some (.int .i64 0) from rfl)
    have o2 := (hO.cell 2).trans (show _ = some (.int .i64 0) from rfl)
    have o3 := (hO.cell 3).trans (show _ = some (.int .i64 0) from rfl)
    have o4 := (hO.cell 4).trans (show _ = some (.int .i64 0) from rfl)
    have hz0 := hZ.lt
    have ho0 := hO.lt
    go_wp2_with fail
    refine (l1SplitF_is s 44 hs _).mono ?_
    rintro e w2 ⟨A3, c3, rfl, O3, hb2⟩
    have hq2 : Below wX.heap.size wX w2 := bth (by repeat (first | exact Below.refl _ _ | refine Below.alloc ?_ (by first | exact Nat.le_refl _ | (simp <;> omega)) _ | refine Below.setCell ?_ (by first | exact Nat.le_refl _ | (simp <;> omega)) _)) hb2
    replace HB := bth HB hq2
    replace hZ := hZ.below hq2 hZ.lt
    replace z0 := (hZ.cell 0).trans (show _ = some (.string ⟨#[]⟩) from rfl)
    replace z1 := (hZ.cell 1).trans (show _ = some (.int .i64 0) from rfl)
    replace z2 := (hZ.cell 2).trans (show _ = some (.int .i64 0) from rfl)
    replace z3 := (hZ.cell 3).trans (show _ = some (.int .i64 0) from rfl)
    replace z4 := (hZ.cell 4).trans (show _ = some (.int .i64 0) from rfl)
    replace hO := hO.below hq2 hO.lt
    replace o0 := (hO.cell 0).trans (show _ = some (.string ⟨#[]⟩) from rfl)
    replace o1 := (hO.cell 1).trans (show _ = some (.int .i64 0) from rfl)
    replace o2 := (hO.cell 2).trans (show _ = some (.int .i64 0) from rfl)
    replace o3 := (hO.cell 3).trans (show _ = some (.int .i64 0) from rfl)
    replace o4 := (hO.cell 4).trans (show _ = some (.int .i64 0) from rfl)
    have Q3 := O3.rds (hf := bC_len)
    clear O3
    have llp := LP.out
    obtain ⟨bp, op, yp, rfl, hbl, hy, hcy⟩ := Q3.at_ (Below.refl _ _) (k := 0) LP.out
    obtain rfl : p0 = yp := Option.some.inj (HXP.out.symm.trans hy)
    have qp := hcy 0 _ rfl (Kin.self _)
    simp only [Nat.mul_one, Nat.add_zero, Kin.self, Nat.zero_mul] at qp
    clear hy hcy hbl Q3
    go_wp2_with fail
    refine (l1SplitF_is p0 32 hps2 _).mono ?_
    rintro e w3 ⟨A4, c4, rfl, O4, hb3⟩
    have hq3 : Below w2.heap.size w2 w3 := bth (by repeat (first | exact Below.refl _ _ | refine Below.alloc ?_ (by first | exact Nat.le_refl _ | (simp <;> omega)) _ | refine Below.setCell ?_ (by first | exact Nat.le_refl _ | (simp <;> omega)) _)) hb3
    replace HB := bth HB hq3
    replace hZ := hZ.below hq3 hZ.lt
    replace z0 := (hZ.cell 0).trans (show _ = some (.string ⟨#[]⟩) from rfl)
    replace z1 := (hZ.cell 1).trans (show _ = some (.int .i64 0) from rfl)
    replace z2 := (hZ.cell 2).trans (show _ = some (.int .i64 0) from rfl)
    replace z3 := (hZ.cell 3).trans (show _ = some (.int .i64 0) from rfl)
    replace z4 := (hZ.cell 4).trans (show _ = some (.int .i64 0) from rfl)
    replace hO := hO.below hq3 hO.lt
    replace o0 := (hO.cell 0).trans (show _ = some (.string ⟨#[]⟩) from rfl)
    replace o1 := (hO.cell 1).trans (show _ = some (.int .i64 0) from rfl)
    replace o2 := (hO.cell 2).trans (show _ = some (.int .i64 0) from rfl)
    replace o3 := (hO.cell 3).trans (show _ = some (.int .i64 0) from rfl)
    replace o4 := (hO.cell 4).trans (show _ = some (.int .i64 0) from rfl)
    clear qp
    have Q4 := O4.rds (hf := bC_len)
    have ll0 := L0.out
    obtain ⟨bq, oq, y0, rfl, hbq, hy, hcy⟩ := Q4.at_ (Below.refl _ _) (k := 0) L0.out
    obtain rfl : x0 = y0 := Option.some.inj (HX0.out.symm.trans hy)
    have q0 := hcy 0 _ rfl (Kin.self _)
    simp only [Nat.mul_one, Nat.add_zero, Kin.self, Nat.zero_mul] at q0
    clear hy hcy
    have fhZ0 := hZ.frozen 0
    have fhZ1 := hZ.frozen 1
    have fhZ2 := hZ.frozen 2
    have fhZ3 := hZ.frozen 3
    have fhZ4 := hZ.frozen 4
    have yhZ := hZ.lt
    have yhO := hO.lt
    go_wp2
    clear z0 z1 z2 z3 z4 o0 o1 o2 o3 o4
    replace HB : Below w.heap.size w (World.setCell (World.setCell (World.setCell (World.setCell (World.setCell w3 ⟨w.heap.size, 0, none⟩ (.string ⟨#[]⟩)) ⟨w.heap.size, 1, none⟩ (.int .i64 0)) ⟨w.heap.size, 2, none⟩ (.int .i64 0)) ⟨w.heap.size, 3, none⟩ (.int .i64 0)) ⟨w.heap.size, 4, none⟩ (.int .i64 0)) := (((((HB.setCell (by show w.heap.size ≤ w.heap.size; omega) (.string ⟨#[]⟩) (p := ⟨w.heap.size, 0, none⟩)).setCell (by show w.heap.size ≤ w.heap.size; omega) (.int .i64 0) (p := ⟨w.heap.size, 1, none⟩)).setCell (by show w.heap.size ≤ w.heap.size; omega) (.int .i64 0) (p := ⟨w.heap.size, 2, none⟩)).setCell (by show w.heap.size ≤ w.heap.size; omega) (.int .i64 0) (p := ⟨w.heap.size, 3, none⟩)).setCell (by show w.heap.size ≤ w.heap.size; omega) (.int .i64 0) (p := ⟨w.heap.size, 4, none⟩))
    replace hZ : Blk (World.setCell (World.setCell (World.setCell (World.setCell (World.setCell w3 ⟨w.heap.size, 0, none⟩ (.string ⟨#[]⟩)) ⟨w.heap.size, 1, none⟩ (.int .i64 0)) ⟨w.heap.size, 2, none⟩ (.int .i64 0)) ⟨w.heap.size, 3, none⟩ (.int .i64 0)) ⟨w.heap.size, 4, none⟩ (.int .i64 0)) (w.heap.size) 27 #[.string ⟨#[]⟩, .int .i64 0, .int .i64 0, .int .i64 0, .int .i64 0] := (((((hZ.set_ 0 (.string ⟨#[]⟩)).set_ 1 (.int .i64 0)).set_ 2 (.int .i64 0)).set_ 3 (.int .i64 0)).set_ 4 (.int .i64 0))
    replace hO := (((((hO.far' (p := ⟨w.heap.size, 0, none⟩) (by show _ ≠ w.heap.size; omega) (.string ⟨#[]⟩)).far' (p := ⟨w.heap.size, 1, none⟩) (by show _ ≠ w.heap.size; omega) (.int .i64 0)).far' (p := ⟨w.heap.size, 2, none⟩) (by show _ ≠ w.heap.size; omega) (.int .i64 0)).far' (p := ⟨w.heap.size, 3, none⟩) (by show _ ≠ w.heap.size; omega) (.int .i64 0)).far' (p := ⟨w.heap.size, 4, none⟩) (by show _ ≠ w.heap.size; omega) (.int .i64 0))
    have szW9 : ((World.setCell (World.setCell (World.setCell (World.setCell (World.setCell w3 ⟨w.heap.size, 0, none⟩ (.string ⟨#[]⟩)) ⟨w.heap.size, 1, none⟩ (.int .i64 0)) ⟨w.heap.size, 2, none⟩ (.int .i64 0)) ⟨w.heap.size, 3, none⟩ (.int .i64 0)) ⟨w.heap.size, 4, none⟩ (.int .i64 0))).heap.size = w3.heap.size := by simp [World.setCell]
    generalize World.setCell (World.setCell (World.setCell (World.setCell (World.setCell w3 ⟨w.heap.size, 0, none⟩ (.string ⟨#[]⟩)) ⟨w.heap.size, 1, none⟩ (.int .i64 0)) ⟨w.heap.size, 2, none⟩ (.int .i64 0)) ⟨w.heap.size, 3, none⟩ (.int .i64 0)) ⟨w.heap.size, 4, none⟩ (.int .i64 0) = W9 at *
    have z0 := (hZ.cell 0).trans (show _ = some (.string ⟨#[]⟩) from rfl)
    have z1 := (hZ.cell 1).trans (show _ = some (.int .i64 0) from rfl)
    have z2 := (hZ.cell 2).trans (show _ = some (.int .i64 0) from rfl)
    have z3 := (hZ.cell 3).trans (show _ = some (.int .i64 0) from rfl)
    have z4 := (hZ.cell 4).trans (show _ = some (.int .i64 0) from rfl)
    have o0 := (hO.cell 0).trans (show _ = some (.string ⟨#[]⟩) from rfl)
    have o1 := (hO.cell 1).trans (show _ = some (.int .i64 0) from rfl)
    have o2 := (hO.cell 2).trans (show _ = some (.int .i64 0) from rfl)
    have o3 := (hO.cell 3).trans (show _ = some (.int .i64 0) from rfl)
    have o4 := (hO.cell 4).trans (show _ = some (.int .i64 0) from rfl)
    refine bodyPost_ret (v := .tuple #[.agg #[.string ⟨#[]⟩, .int .i64 0, .int .i64 0, .int .i64 0, .int .i64 0], .bool false]) (by simp [results, Tryz.results50, go_sem, z0, z1, z2, z3, z4]) rfl ?_
    exact ⟨by rw [poO_no HNO.out]; rfl, HB⟩
  by_cases h3 : (spB 44 s).length = 3
  case neg =>
    have HNO : Hid (¬ ∃ r, isR s r) := Lib.hid (fun ⟨r, h⟩ => h3 (po_parts h).2)
    go_enter Tryz.func50, Tryz.ntmps50
    go_upto_region 2 with fail
    have hq1 : Below w.heap.size w (World.alloc (World.alloc w (.cells #[.string ⟨#[]⟩, .int .i64 0, .int .i64 0, .int .i64 0, .int .i64 0] 27)) (.cells #[.string ⟨#[]⟩, .int .i64 0, .int .i64 0, .int .i64 0, .int .i64 0] 27)) := bl2 w _ _
    have hZ : Blk (World.alloc (World.alloc w (.cells #[.string ⟨#[]⟩, .int .i64 0, .int .i64 0, .int .i64 0, .int .i64 0] 27)) (.cells #[.string ⟨#[]⟩, .int .i64 0, .int .i64 0, .int .i64 0, .int .i64 0] 27)) (w.heap.size) 27 #[.string ⟨#[]⟩, .int .i64 0, .int .i64 0, .int .i64 0, .int .i64 0] := by repeat (first | exact Blk.new _ _ _ | exact Blk.new2 _ _ _ _ | exact Blk.new3 _ _ _ _ _ | exact Blk.new4 _ _ _ _ _ _ | refine Blk.alloc ?_ _)
    have hO : Blk (World.alloc (World.alloc w (.cells #[.string ⟨#[]⟩, .int .i64 0, .int .i64 0, .int .i64 0, .int .i64 0] 27)) (.cells #[.string ⟨#[]⟩, .int .i64 0, .int .i64 0, .int .i64 0, .int .i64 0] 27)) (w.heap.size + 1) 27 #[.string ⟨#[]⟩, .int .i64 0, .int .i64 0, .int .i64 0, .int .i64 0] := by repeat (first | exact Blk.new _ _ _ | exact Blk.new2 _ _ _ _ | exact Blk.new3 _ _ _ _ _ | exact Blk.new4 _ _ _ _ _ _ | refine Blk.alloc ?_ _)
    generalize World.alloc (World.alloc w (.cells #[.string ⟨#[]⟩, .int .i64 0, .int .i64 0, .int .i64 0, .int .i64 0] 27)) (.cells #[.string ⟨#[]⟩, .int .i64 0, .int .i64 0, .int .i64 0, .int .i64 0] 27) = wX at *
    have HB := hq1
    have z0 := (hZ.cell 0).trans (show _ = some (.string ⟨#[]⟩) from rfl)
    have z1 := (hZ.cell 1).trans (show _ = some (.int .i64 0) from rfl)
    have z2 := (hZ.cell 2).trans (show _ = some (.int .i64 0) from rfl)
    have z3 := (hZ.cell 3).trans (show _ = some (.int .i64 0) from rfl)
    have z4 := (hZ.cell 4).trans (show _ = some (.int .i64 0) from rfl)
    have o0 := (hO.cell 0).trans (show _ = some (.string ⟨#[]⟩) from rfl)
    have o1 := (hO.cell 1).trans (show _ = some (.int .i64 0) from rfl)
    have o2 := (hO.cell 2).trans (show _ = some (.int .i64 0) from rfl)
    have o3 := (hO.cell 3).trans (show _ = some (.int .i64 0) from rfl)
    have o4 := (hO.cell 4).trans (show _ = some (.int .i64 0) from rfl)
    have hz0 := hZ.lt
    have ho0 := hO.lt
    go_wp2_with fail
    refine (l1SplitF_is s 44 hs _).mono ?_
    rintro e w2 ⟨A3, c3, rfl, O3, hb2⟩
    have hq2 : Below wX.heap.size wX w2 := bth (by repeat (first | exact Below.refl _ _ | refine Below.alloc ?_ (by first | exact Nat.le_refl _ | (simp <;> omega)) _ | refine Below.setCell ?_ (by first | exact Nat.le_refl _ | (simp <;> omega)) _)) hb2
    replace HB := bth HB hq2
    replace hZ := hZ.below hq2 hZ.lt
    replace z0 := (hZ.cell 0).trans (show _ = some (.string ⟨#[]⟩) from rfl)
    replace z1 := (hZ.cell 1).trans (show _ = some (.int .i64 0) from rfl)
    replace z2 := (hZ.cell 2).trans (show _ = some (.int .i64 0) from rfl)
    replace z3 := (hZ.cell 3).trans (show _ = some (.int .i64 0) from rfl)
    replace z4 := (hZ.cell 4).trans (show _ = some (.int .i64 0) from rfl)
    replace hO := hO.below hq2 hO.lt
    replace o0 := (hO.cell 0).trans (show _ = some (.string ⟨#[]⟩) from rfl)
    replace o1 := (hO.cell 1).trans (show _ = some (.int .i64 0) from rfl)
    replace o2 := (hO.cell 2).trans (show _ = some (.int .i64 0) from rfl)
    replace o3 := (hO.cell 3).trans (show _ = some (.int .i64 0) from rfl)
    replace o4 := (hO.cell 4).trans (show _ = some (.int .i64 0) from rfl)
    have Q3 := O3.rds (hf := bC_len)
    clear O3
    have llp := LP.out
    obtain ⟨bp, op, yp, rfl, hbl, hy, hcy⟩ := Q3.at_ (Below.refl _ _) (k := 0) LP.out
    obtain rfl : p0 = yp := Option.some.inj (HXP.out.symm.trans hy)
    have qp := hcy 0 _ rfl (Kin.self _)
    simp only [Nat.mul_one, Nat.add_zero, Kin.self, Nat.zero_mul] at qp
    clear hy hcy hbl Q3
    go_wp2_with fail
    refine (l1SplitF_is p0 32 hps2 _).mono ?_
    rintro e w3 ⟨A4, c4, rfl, O4, hb3⟩
    have hq3 : Below w2.heap.size w2 w3 := bth (by repeat (first | exact Below.refl _ _ | refine Below.alloc ?_ (by first | exact Nat.le_refl _ | (simp <;> omega)) _ | refine Below.setCell ?_ (by first | exact Nat.le_refl _ | (simp <;> omega)) _)) hb3
    replace HB := bth HB hq3
    replace hZ := hZ.below hq3 hZ.lt
    replace z0 := (hZ.cell 0).trans (show _ = some (.string ⟨#[]⟩) from rfl)
    replace z1 := (hZ.cell 1).trans (show _ = some (.int .i64 0) from rfl)
    replace z2 := (hZ.cell 2).trans (show _ = some (.int .i64 0) from rfl)
    replace z3 := (hZ.cell 3).trans (show _ = some (.int .i64 0) from rfl)
    replace z4 := (hZ.cell 4).trans (show _ = some (.int .i64 0) from rfl)
    replace hO := hO.below hq3 hO.lt
    replace o0 := (hO.cell 0).trans (show _ = some (.string ⟨#[]⟩) from rfl)
    replace o1 := (hO.cell 1).trans (show _ = some (.int .i64 0) from rfl)
    replace o2 := (hO.cell 2).trans (show _ = some (.int .i64 0) from rfl)
    replace o3 := (hO.cell 3).trans (show _ = some (.int .i64 0) from rfl)
    replace o4 := (hO.cell 4).trans (show _ = some (.int .i64 0) from rfl)
    clear qp
    have Q4 := O4.rds (hf := bC_len)
    have ll0 := L0.out
    obtain ⟨bq, oq, y0, rfl, hbq, hy, hcy⟩ := Q4.at_ (Below.refl _ _) (k := 0) L0.out
    obtain rfl : x0 = y0 := Option.some.inj (HX0.out.symm.trans hy)
    have q0 := hcy 0 _ rfl (Kin.self _)
    simp only [Nat.mul_one, Nat.add_zero, Kin.self, Nat.zero_mul] at q0
    clear hy hcy
    have g3 : (((spB 44 s).length : Int) == 3) = false := by rw [beq_eq_false_iff_ne]; omega
    have d3 : ¬ ((spB 44 s).length : Int) = 3 := by omega
    have fhZ0 := hZ.frozen 0
    have fhZ1 := hZ.frozen 1
    have fhZ2 := hZ.frozen 2
    have fhZ3 := hZ.frozen 3
    have fhZ4 := hZ.frozen 4
    have yhZ := hZ.lt
    have yhO := hO.lt
    go_wp2
    clear z0 z1 z2 z3 z4 o0 o1 o2 o3 o4
    replace HB : Below w.heap.size w (World.setCell (World.setCell (World.setCell (World.setCell (World.setCell w3 ⟨w.heap.size, 0, none⟩ (.string ⟨#[]⟩)) ⟨w.heap.size, 1, none⟩ (.int .i64 0)) ⟨w.heap.size, 2, none⟩ (.int .i64 0)) ⟨w.heap.size, 3, none⟩ (.int .i64 0)) ⟨w.heap.size, 4, none⟩ (.int .i64 0)) := (((((HB.setCell (by show w.heap.size ≤ w.heap.size; omega) (.string ⟨#[]⟩) (p := ⟨w.heap.size, 0, none⟩)).setCell (by show w.heap.size ≤ w.heap.size; omega) (.int .i64 0) (p := ⟨w.heap.size, 1, none⟩)).setCell (by show w.heap.size ≤ w.heap.size; omega) (.int .i64 0) (p := ⟨w.heap.size, 2, none⟩)).setCell (by show w.heap.size ≤ w.heap.size; omega) (.int .i64 0) (p := ⟨w.heap.size, 3, none⟩)).setCell (by show w.heap.size ≤ w.heap.size; omega) (.int .i64 0) (p := ⟨w.heap.size, 4, none⟩))
    replace hZ : Blk (World.setCell (World.setCell (World.setCell (World.setCell (World.setCell w3 ⟨w.heap.size, 0, none⟩ (.string ⟨#[]⟩)) ⟨w.heap.size, 1, none⟩ (.int .i64 0)) ⟨w.heap.size, 2, none⟩ (.int .i64 0)) ⟨w.heap.size, 3, none⟩ (.int .i64 0)) ⟨w.heap.size, 4, none⟩ (.int .i64 0)) (w.heap.size) 27 #[.string ⟨#[]⟩, .int .i64 0, .int .i64 0, .int .i64 0, .int .i64 0] := (((((hZ.set_ 0 (.string ⟨#[]⟩)).set_ 1 (.int .i64 0)).set_ 2 (.int .i64 0)).set_ 3 (.int .i64 0)).set_ 4 (.int .i64 0))
    replace hO := (((((hO.far' (p := ⟨w.heap.size, 0, none⟩) (by show _ ≠ w.heap.size; omega) (.string ⟨#[]⟩)).far' (p := ⟨w.heap.size, 1, none⟩) (by show _ ≠ w.heap.size; omega) (.int .i64 0)).far' (p := ⟨w.heap.size, 2, none⟩) (by show _ ≠ w.heap.size; omega) (.int .i64 0)).far' (p := ⟨w.heap.size, 3, none⟩) (by show _ ≠ w.heap.size; omega) (.int .i64 0)).far' (p := ⟨w.heap.size, 4, none⟩) (by show _ ≠ w.heap.size; omega) (.int .i64 0))
    have szW9 : ((World.setCell (World.setCell (World.setCell (World.setCell (World.setCell w3 ⟨w.heap.size, 0, none⟩ (.string ⟨#[]⟩)) ⟨w.heap.size, 1, none⟩ (.int .i64 0)) ⟨w.heap.size, 2, none⟩ (.int .i64 0)) ⟨w.heap.size, 3, none⟩ (.int .i64 0)) ⟨w.heap.size, 4, none⟩ (.int .i64 0))).heap.size = w3.heap.size := by simp [World.setCell]
    generalize World.setCell (World.setCell (World.setCell (World.setCell (World.setCell w3 ⟨w.heap.size, 0, none⟩ (.string ⟨#[]⟩)) ⟨w.heap.size, 1, none⟩ (.int .i64 0)) ⟨w.heap.size, 2, none⟩ (.int .i64 0)) ⟨w.heap.size, 3, none⟩ (.int .i64 0)) ⟨w.heap.size, 4, none⟩ (.int .i64 0) = W9 at *
    have z0 := (hZ.cell 0).trans (show _ = some (.string ⟨#[]⟩) from rfl)
    have z1 := (hZ.cell 1).trans (show _ = some (.int .i64 0) from rfl)
    have z2 := (hZ.cell 2).trans (show _ = some (.int .i64 0) from rfl)
    have z3 := (hZ.cell 3).trans (show _ = some (.int .i64 0) from rfl)
    have z4 := (hZ.cell 4).trans (show _ = some (.int .i64 0) from rfl)
    have o0 := (hO.cell 0).trans (show _ = some (.string ⟨#[]⟩) from rfl)
    have o1 := (hO.cell 1).trans (show _ = some (.int .i64 0) from rfl)
    have o2 := (hO.cell 2).trans (show _ = some (.int .i64 0) from rfl)
    have o3 := (hO.cell 3).trans (show _ = some (.int .i64 0) from rfl)
    have o4 := (hO.cell 4).trans (show _ = some (.int .i64 0) from rfl)
    refine bodyPost_ret (v := .tuple #[.agg #[.string ⟨#[]⟩, .int .i64 0, .int .i64 0, .int .i64 0, .int .i64 0], .bool false]) (by simp [results, Tryz.results50, go_sem, z0, z1, z2, z3, z4]) rfl ?_
    exact ⟨by rw [poO_no HNO.out]; rfl, HB⟩
  have H3 := Lib.hid h3; clear h3
  by_cases h47 : (spB 32 p0).length = 4 ∨ (spB 32 p0).length = 7
  case neg =>
    have HNO : Hid (¬ ∃ r, isR s r) := Lib.hid (fun ⟨r, h⟩ => h47 (po_head h HXP.out))
    go_enter Tryz.func50, Tryz.ntmps50
    go_upto_region 2 with fail
    have hq1 : Below w.heap.size w (World.alloc (World.alloc w (.cells #[.string ⟨#[]⟩, .int .i64 0, .int .i64 0, .int .i64 0, .int .i64 0] 27)) (.cells #[.string ⟨#[]⟩, .int .i64 0, .int .i64 0, .int .i64 0, .int .i64 0] 27)) := bl2 w _ _
    have hZ : Blk (World.alloc (World.alloc w (.cells #[.string ⟨#[]⟩, .int .i64 0, .int .i64 0, .int .i64 0, .int .i64 0] 27)) (.cells #[.string ⟨#[]⟩, .int .i64 0, .int .i64 0, .int .i64 0, .int .i64 0] 27)) (w.heap.size) 27 #[.string ⟨#[]⟩, .int .i64 0, .int .i64 0, .int .i64 0, .int .i64 0] := by repeat (first | exact Blk.new _ _ _ | exact Blk.new2 _ _ _ _ | exact Blk.new3 _ _ _ _ _ | exact Blk.new4 _ _ _ _ _ _ | refine Blk.alloc ?_ _)
    have hO : Blk (World.alloc (World.alloc w (.cells #[.string ⟨#[]⟩, .int .i64 0, .int .i64 0, .int .i64 0, .int .i64 0] 27)) (.cells #[.string ⟨#[]⟩, .int .i64 0, .int .i64 0, .int .i64 0, .int .i64 0] 27)) (w.heap.size + 1) 27 #[.string ⟨#[]⟩, .int .i64 0, .int .i64 0, .int .i64 0, .int .i64 0] := by repeat (first | exact Blk.new _ _ _ | exact Blk.new2 _ _ _ _ | exact Blk.new3 _ _ _ _ _ | exact Blk.new4 _ _ _ _ _ _ | refine Blk.alloc ?_ _)
    generalize World.alloc (World.alloc w (.cells #[.string ⟨#[]⟩, .int .i64 0, .int .i64 0, .int .i64 0, .int .i64 0] 27)) (.cells #[.string ⟨#[]⟩, .int .i64 0, .int .i64 0, .int .i64 0, .int .i64 0] 27) = wX at *
    have HB := hq1
    have z0 := (hZ.cell 0).trans (show _ = some (.string ⟨#[]⟩) from rfl)
    have z1 := (hZ.cell 1).trans (show _ = some (.int .i64 0) from rfl)
    have z2 := (hZ.cell 2).trans (show _ = some (.int .i64 0) from rfl)
    have z3 := (hZ.cell 3).trans (show _ = some (.int .i64 0) from rfl)
    have z4 := (hZ.cell 4).trans (show _ = some (.int .i64 0) from rfl)
    have o0 := (hO.cell 0).trans (show _ = some (.string ⟨#[]⟩) from rfl)
    have o1 := (hO.cell 1).trans (show _ = some (.int .i64 0) from rfl)
    have o2 := (hO.cell 2).trans (show _ = some (.int .i64 0) from rfl)
    have o3 := (hO.cell 3).trans (show _ = some (.int .i64 0) from rfl)
    have o4 := (hO.cell 4).trans (show _ = some (.int .i64 0) from rfl)
    have hz0 := hZ.lt
    have ho0 := hO.lt
    go_wp2_with fail
    refine (l1SplitF_is s 44 hs _).mono ?_
    rintro e w2 ⟨A3, c3, rfl, O3, hb2⟩
    have hq2 : Below wX.heap.size wX w2 := bth (by repeat (first | exact Below.refl _ _ | refine Below.alloc ?_ (by first | exact Nat.le_refl _ | (simp <;> omega)) _ | refine Below.setCell ?_ (by first | exact Nat.le_refl _ | (simp <;> omega)) _)) hb2
    replace HB := bth HB hq2
    replace hZ := hZ.below hq2 hZ.lt
    replace z0 := (hZ.cell 0).trans (show _ = some (.string ⟨#[]⟩) from rfl)
    replace z1 := (hZ.cell 1).trans (show _ = some (.int .i64 0) from rfl)
    replace z2 := (hZ.cell 2).trans (show _ = some (.int .i64 0) from rfl)
    replace z3 := (hZ.cell 3).trans (show _ = some (.int .i64 0) from rfl)
    replace z4 := (hZ.cell 4).trans (show _ = some (.int .i64 0) from rfl)
    replace hO := hO.below hq2 hO.lt
    replace o0 := (hO.cell 0).trans (show _ = some (.string ⟨#[]⟩) from rfl)
    replace o1 := (hO.cell 1).trans (show _ = some (.int .i64 0) from rfl)
    replace o2 := (hO.cell 2).trans (show _ = some (.int .i64 0) from rfl)
    replace o3 := (hO.cell 3).trans (show _ = some (.int .i64 0) from rfl)
    replace o4 := (hO.cell 4).trans (show _ = some (.int .i64 0) from rfl)
    have Q3 := O3.rds (hf := bC_len)
    clear O3
    have llp := LP.out
    obtain ⟨bp, op, yp, rfl, hbl, hy, hcy⟩ := Q3.at_ (Below.refl _ _) (k := 0) LP.out
    obtain rfl : p0 = yp := Option.some.inj (HXP.out.symm.trans hy)
    have qp := hcy 0 _ rfl (Kin.self _)
    simp only [Nat.mul_one, Nat.add_zero, Kin.self, Nat.zero_mul] at qp
    clear hy hcy hbl Q3
    go_wp2_with fail
    refine (l1SplitF_is p0 32 hps2 _).mono ?_
    rintro e w3 ⟨A4, c4, rfl, O4, hb3⟩
    have hq3 : Below w2.heap.size w2 w3 := bth (by repeat (first | exact Below.refl _ _ | refine Below.alloc ?_ (by first | exact Nat.le_refl _ | (simp <;> omega)) _ | refine Below.setCell ?_ (by first | exact Nat.le_refl _ | (simp <;> omega)) _)) hb3
    replace HB := bth HB hq3
    replace hZ := hZ.below hq3 hZ.lt
    replace z0 := (hZ.cell 0).trans (show _ = some (.string ⟨#[]⟩) from rfl)
    replace z1 := (hZ.cell 1).trans (show _ = some (.int .i64 0) from rfl)
    replace z2 := (hZ.cell 2).trans (show _ = some (.int .i64 0) from rfl)
    replace z3 := (hZ.cell 3).trans (show _ = some (.int .i64 0) from rfl)
    replace z4 := (hZ.cell 4).trans (show _ = some (.int .i64 0) from rfl)
    replace hO := hO.below hq3 hO.lt
    replace o0 := (hO.cell 0).trans (show _ = some (.string ⟨#[]⟩) from rfl)
    replace o1 := (hO.cell 1).trans (show _ = some (.int .i64 0) from rfl)
    replace o2 := (hO.cell 2).trans (show _ = some (.int .i64 0) from rfl)
    replace o3 := (hO.cell 3).trans (show _ = some (.int .i64 0) from rfl)
    replace o4 := (hO.cell 4).trans (show _ = some (.int .i64 0) from rfl)
    clear qp
    have Q4 := O4.rds (hf := bC_len)
    have ll0 := L0.out
    obtain ⟨bq, oq, y0, rfl, hbq, hy, hcy⟩ := Q4.at_ (Below.refl _ _) (k := 0) L0.out
    obtain rfl : x0 = y0 := Option.some.inj (HX0.out.symm.trans hy)
    have q0 := hcy 0 _ rfl (Kin.self _)
    simp only [Nat.mul_one, Nat.add_zero, Kin.self, Nat.zero_mul] at q0
    clear hy hcy
    have g3 : (((spB 44 s).length : Int) == 3) = true := by rw [H3.out]; rfl
    have d3 : ((spB 44 s).length : Int) = 3 := by rw [H3.out]; rfl
    have g4 : (((spB 32 p0).length : Int) == 4) = false := by rw [beq_eq_false_iff_ne]; omega
    have g7 : (((spB 32 p0).length : Int) == 7) = false := by rw [beq_eq_false_iff_ne]; omega
    have d4 : ¬ ((spB 32 p0).length : Int) = 4 := by omega
    have d7 : ¬ ((spB 32 p0).length : Int) = 7 := by omega
    have fhZ0 := hZ.frozen 0
    have fhZ1 := hZ.frozen 1
    have fhZ2 := hZ.frozen 2
    have fhZ3 := hZ.frozen 3
    have fhZ4 := hZ.frozen 4
    have yhZ := hZ.lt
    have yhO := hO.lt
    go_wp2
    clear z0 z1 z2 z3 z4 o0 o1 o2 o3 o4
    replace HB : Below w.heap.size w (World.setCell (World.setCell (World.setCell (World.setCell (World.setCell w3 ⟨w.heap.size, 0, none⟩ (.string ⟨#[]⟩)) ⟨w.heap.size, 1, none⟩ (.int .i64 0)) ⟨w.heap.size, 2, none⟩ (.int .i64 0)) ⟨w.heap.size, 3, none⟩ (.int .i64 0)) ⟨w.heap.size, 4, none⟩ (.int .i64 0)) := (((((HB.setCell (by show w.heap.size ≤ w.heap.size; omega) (.string ⟨#[]⟩) (p := ⟨w.heap.size, 0, none⟩)).setCell (by show w.heap.size ≤ w.heap.size; omega) (.int .i64 0) (p := ⟨w.heap.size, 1, none⟩)).setCell (by show w.heap.size ≤ w.heap.size; omega) (.int .i64 0) (p := ⟨w.heap.size, 2, none⟩)).setCell (by show w.heap.size ≤ w.heap.size; omega) (.int .i64 0) (p := ⟨w.heap.size, 3, none⟩)).setCell (by show w.heap.size ≤ w.heap.size; omega) (.int .i64 0) (p := ⟨w.heap.size, 4, none⟩))
    replace hZ : Blk (World.setCell (World.setCell (World.setCell (World.setCell (World.setCell w3 ⟨w.heap.size, 0, none⟩ (.string ⟨#[]⟩)) ⟨w.heap.size, 1, none⟩ (.int .i64 0)) ⟨w.heap.size, 2, none⟩ (.int .i64 0)) ⟨w.heap.size, 3, none⟩ (.int .i64 0)) ⟨w.heap.size, 4, none⟩ (.int .i64 0)) (w.heap.size) 27 #[.string ⟨#[]⟩, .int .i64 0, .int .i64 0, .int .i64 0, .int .i64 0] := (((((hZ.set_ 0 (.string ⟨#[]⟩)).set_ 1 (.int .i64 0)).set_ 2 (.int .i64 0)).set_ 3 (.int .i64 0)).set_ 4 (.int .i64 0))
    replace hO := (((((hO.far' (p := ⟨w.heap.size, 0, none⟩) (by show _ ≠ w.heap.size; omega) (.string ⟨#[]⟩)).far' (p := ⟨w.heap.size, 1, none⟩) (by show _ ≠ w.heap.size; omega) (.int .i64 0)).far' (p := ⟨w.heap.size, 2, none⟩) (by show _ ≠ w.heap.size; omega) (.int .i64 0)).far' (p := ⟨w.heap.size, 3, none⟩) (by show _ ≠ w.heap.size; omega) (.int .i64 0)).far' (p := ⟨w.heap.size, 4, none⟩) (by show _ ≠ w.heap.size; omega) (.int .i64 0))
    have szW9 : ((World.setCell (World.setCell (World.setCell (World.setCell (World.setCell w3 ⟨w.heap.size, 0, none⟩ (.string ⟨#[]⟩)) ⟨w.heap.size, 1, none⟩ (.int .i64 0)) ⟨w.heap.size, 2, none⟩ (.int .i64 0)) ⟨w.heap.size, 3, none⟩ (.int .i64 0)) ⟨w.heap.size, 4, none⟩ (.int .i64 0))).heap.size = w3.heap.size := by simp [World.setCell]
    generalize World.setCell (World.setCell (World.setCell (World.setCell (World.setCell w3 ⟨w.heap.size, 0, none⟩ (.string ⟨#[]⟩)) ⟨w.heap.size, 1, none⟩ (.int .i64 0)) ⟨w.heap.size, 2, none⟩ (.int .i64 0)) ⟨w.heap.size, 3, none⟩ (.int .i64 0)) ⟨w.heap.size, 4, none⟩ (.int .i64 0) = W9 at *
    have z0 := (hZ.cell 0).trans (show _ = some (.string ⟨#[]⟩) from rfl)
    have z1 := (hZ.cell 1).trans (show _ = some (.int .i64 0) from rfl)
    have z2 := (hZ.cell 2).trans (show _ = some (.int .i64 0) from rfl)
    have z3 := (hZ.cell 3).trans (show _ = some (.int .i64 0) from rfl)
    have z4 := (hZ.cell 4).trans (show _ = some (.int .i64 0) from rfl)
    have o0 := (hO.cell 0).trans (show _ = some (.string ⟨#[]⟩) from rfl)
    have o1 := (hO.cell 1).trans (show _ = some (.int .i64 0) from rfl)
    have o2 := (hO.cell 2).trans (show _ = some (.int .i64 0) from rfl)
    have o3 := (hO.cell 3).trans (show _ = some (.int .i64 0) from rfl)
    have o4 := (hO.cell 4).trans (show _ = some (.int .i64 0) from rfl)
    refine bodyPost_ret (v := .tuple #[.agg #[.string ⟨#[]⟩, .int .i64 0, .int .i64 0, .int .i64 0, .int .i64 0], .bool false]) (by simp [results, Tryz.results50, go_sem, z0, z1, z2, z3, z4]) rfl ?_
    exact ⟨by rw [poO_no HNO.out]; rfl, HB⟩
  obtain ⟨x1, h1⟩ : ∃ x, (spB 32 p0)[1]? = some x := ⟨_, List.getElem?_eq_getElem (by omega)⟩
  obtain ⟨x3, h3⟩ : ∃ x, (spB 32 p0)[3]? = some x := ⟨_, List.getElem?_eq_getElem (by omega)⟩
  have HC := Lib.hid (fun r (hr : isR s r) => po_cuts hr HXP.out h0 h1 h3)
  have y1 : x1.size ≤ maxLen := by have := spB_size h1; unfold maxLen; omega
  have y3 : x3.size ≤ maxLen := by have := spB_size h3; unfold maxLen; omega
  obtain ⟨v1, b1, r1⟩ := rdOut_form x1
  obtain ⟨v3, b3, r3⟩ := rdOut_form x3
  have i1 : rdI x1 = v1 := by have := rdOut_I x1; rw [r1] at this; simp at this; exact this.1.symm
  have i3 : rdI x3 = v3 := by have := rdOut_I x3; rw [r3] at this; simp at this; exact this.1.symm
  have L1 : Hid (1 < (spB 32 p0).length) := Lib.hid (by omega)
  have L3 : Hid (3 < (spB 32 p0).length) := Lib.hid (by omega)
  have HX1 := Lib.hid h1; have HX3 := Lib.hid h3; have H1 := Lib.hid r1; have HR3 := Lib.hid r3; have I1 := Lib.hid i1; have I3 := Lib.hid i3
  clear h1 h3 r1 r3 i1 i3 h0 hp0
  by_cases hn4 : (spB 32 p0).length = 4
  · have HN := Lib.hid hn4; clear hn4 h47
    by_cases h2 : 2 ≤ x0.size
    case neg =>
      have HNO : Hid (¬ ∃ r, isR s r) := Lib.hid (fun ⟨r, h⟩ => h2 (HC.out r h).1)
      go_enter Tryz.func50, Tryz.ntmps50
      go_upto_region 2 with fail
      have hq1 : Below w.heap.size w (World.alloc (World.alloc w (.cells #[.string ⟨#[]⟩, .int .i64 0, .int .i64 0, .int .i64 0, .int .i64 0] 27)) (.cells #[.string ⟨#[]⟩, .int .i64 0, .int .i64 0, .int .i64 0, .int .i64 0] 27)) := bl2 w _ _
      have hZ : Blk (World.alloc (World.alloc w (.cells #[.string ⟨#[]⟩, .int .i64 0, .int .i64 0, .int .i64 0, .int .i64 0] 27)) (.cells #[.string ⟨#[]⟩, .int .i64 0, .int .i64 0, .int .i64 0, .int .i64 0] 27)) (w.heap.size) 27 #[.string ⟨#[]⟩, .int .i64 0, .int .i64 0, .int .i64 0, .int .i64 0] := by repeat (first | exact Blk.new _ _ _ | exact Blk.new2 _ _ _ _ | exact Blk.new3 _ _ _ _ _ | exact Blk.new4 _ _ _ _ _ _ | refine Blk.alloc ?_ _)
      have hO : Blk (World.alloc (World.alloc w (.cells #[.string ⟨#[]⟩, .int .i64 0, .int .i64 0, .int .i64 0, .int .i64 0] 27)) (.cells #[.string ⟨#[]⟩, .int .i64 0, .int .i64 0, .int .i64 0, .int .i64 0] 27)) (w.heap.size + 1) 27 #[.string ⟨#[]⟩, .int .i64 0, .int .i64 0, .int .i64 0, .int .i64 0] := by repeat (first | exact Blk.new _ _ _ | exact Blk.new2 _ _ _ _ | exact Blk.new3 _ _ _ _ _ | exact Blk.new4 _ _ _ _ _ _ | refine Blk.alloc ?_ _)
      generalize World.alloc (World.alloc w (.cells #[.string ⟨#[]⟩, .int .i64 0, .int .i64 0, .int .i64 0, .int .i64 0] 27)) (.cells #[.string ⟨#[]⟩, .int .i64 0, .int .i64 0, .int .i64 0, .int .i64 0] 27) = wX at *
      have HB := hq1
      have z0 := (hZ.cell 0).trans (show _ = some (.string ⟨#[]⟩) from rfl)
      have z1 := (hZ.cell 1).trans (show _ = some (.int .i64 0) from rfl)
      have z2 := (hZ.cell 2).trans (show _ = some (.int .i64 0) from rfl)
      have z3 := (hZ.cell 3).trans (show _ = some (.int .i64 0) from rfl)
      have z4 := (hZ.cell 4).trans (show _ = some (.int .i64 0) from rfl)
      have o0 := (hO.cell 0).trans (show _ = some (.string ⟨#[]⟩) from rfl)
      have o1 := (hO.cell 1).trans (show _ = some (.int .i64 0) from rfl)
      have o2 := (hO.cell 2).trans (show _ = some (.int .i64 0) from rfl)
      have o3 := (hO.cell 3).trans (show _ = some (.int .i64 0) from rfl)
      have o4 := (hO.cell 4).trans (show _ = some (.int .i64 0) from rfl)
      have hz0 := hZ.lt
      have ho0 := hO.lt
      go_wp2_with fail
      refine (l1SplitF_is s 44 hs _).mono ?_
      rintro e w2 ⟨A3, c3, rfl, O3, hb2⟩
      have hq2 : Below wX.heap.size wX w2 := bth (by repeat (first | exact Below.refl _ _ | refine Below.alloc ?_ (by first | exact Nat.le_refl _ | (simp <;> omega)) _ | refine Below.setCell ?_ (by first | exact Nat.le_refl _ | (simp <;> omega)) _)) hb2
      replace HB := bth HB hq2
      replace hZ := hZ.below hq2 hZ.lt
      replace z0 := (hZ.cell 0).trans (show _ = some (.string ⟨#[]⟩) from rfl)
      replace z1 := (hZ.cell 1).trans (show _ = some (.int .i64 0) from rfl)
      replace z2 := (hZ.cell 2).trans (show _ = some (.int .i64 0) from rfl)
      replace z3 := (hZ.cell 3).trans (show _ = some (.int .i64 0) from rfl)
      replace z4 := (hZ.cell 4).trans (show _ = some (.int .i64 0) from rfl)
      replace hO := hO.below hq2 hO.lt
      replace o0 := (hO.cell 0).trans (show _ = some (.string ⟨#[]⟩) from rfl)
      replace o1 := (hO.cell 1).trans (show _ = some (.int .i64 0) from rfl)
      replace o2 := (hO.cell 2).trans (show _ = some (.int .i64 0) from rfl)
      replace o3 := (hO.cell 3).trans (show _ = some (.int .i64 0) from rfl)
      replace o4 := (hO.cell 4).trans (show _ = some (.int .i64 0) from rfl)
      have Q3 := O3.rds (hf := bC_len)
      clear O3
      have llp := LP.out
      obtain ⟨bp, op, yp, rfl, hbl, hy, hcy⟩ := Q3.at_ (Below.refl _ _) (k := 0) LP.out
      obtain rfl : p0 = yp := Option.some.inj (HXP.out.symm.trans hy)
      have qp := hcy 0 _ rfl (Kin.self _)
      simp only [Nat.mul_one, Nat.add_zero, Kin.self, Nat.zero_mul] at qp
      clear hy hcy hbl Q3
      go_wp2_with fail
      refine (l1SplitF_is p0 32 hps2 _).mono ?_
      rintro e w3 ⟨A4, c4, rfl, O4, hb3⟩
      have hq3 : Below w2.heap.size w2 w3 := bth (by repeat (first | exact Below.refl _ _ | refine Below.alloc ?_ (by first | exact Nat.le_refl _ | (simp <;> omega)) _ | refine Below.setCell ?_ (by first | exact Nat.le_refl _ | (simp <;> omega)) _)) hb3
      replace HB := bth HB hq3
      replace hZ := hZ.below hq3 hZ.lt
      replace z0 := (hZ.cell 0).trans (show _ = some (.string ⟨#[]⟩) from rfl)
      replace z1 := (hZ.cell 1).trans (show _ = some (.int .i64 0) from rfl)
      replace z2 := (hZ.cell 2).trans (show _ = some (.int .i64 0) from rfl)
      replace z3 := (hZ.cell 3).trans (show _ = some (.int .i64 0) from rfl)
      replace z4 := (hZ.cell 4).trans (show _ = some (.int .i64 0) from rfl)
      replace hO := hO.below hq3 hO.lt
      replace o0 := (hO.cell 0).trans (show _ = some (.string ⟨#[]⟩) from rfl)
      replace o1 := (hO.cell 1).trans (show _ = some (.int .i64 0) from rfl)
      replace o2 := (hO.cell 2).trans (show _ = some (.int .i64 0) from rfl)
      replace o3 := (hO.cell 3).trans (show _ = some (.int .i64 0) from rfl)
      replace o4 := (hO.cell 4).trans (show _ = some (.int .i64 0) from rfl)
      clear qp
      have Q4 := O4.rds (hf := bC_len)
      have ll0 := L0.out
      obtain ⟨bq, oq, y0, rfl, hbq, hy, hcy⟩ := Q4.at_ (Below.refl _ _) (k := 0) L0.out
      obtain rfl : x0 = y0 := Option.some.inj (HX0.out.symm.trans hy)
      have q0 := hcy 0 _ rfl (Kin.self _)
      simp only [Nat.mul_one, Nat.add_zero, Kin.self, Nat.zero_mul] at q0
      clear hy hcy
      have g3 : (((spB 44 s).length : Int) == 3) = true := by rw [H3.out]; rfl
      have d3 : ((spB 44 s).length : Int) = 3 := by rw [H3.out]; rfl
      have g4 : (((spB 32 p0).length : Int) == 4) = true := by rw [HN.out]; rfl
      have d4 : ((spB 32 p0).length : Int) = 4 := by have := HN.out; omega
      have fhZ0 := hZ.frozen 0
      have fhZ1 := hZ.frozen 1
      have fhZ2 := hZ.frozen 2
      have fhZ3 := hZ.frozen 3
      have fhZ4 := hZ.frozen 4
      have yhZ := hZ.lt
      have yhO := hO.lt
      go_wp2
      clear z0 z1 z2 z3 z4 o0 o1 o2 o3 o4
      replace HB : Below w.heap.size w (World.setCell (World.setCell (World.setCell (World.setCell (World.setCell w3 ⟨w.heap.size, 0, none⟩ (.string ⟨#[]⟩)) ⟨w.heap.size, 1, none⟩ (.int .i64 0)) ⟨w.heap.size, 2, none⟩ (.int .i64 0)) ⟨w.heap.size, 3, none⟩ (.int .i64 0)) ⟨w.heap.size, 4, none⟩ (.int .i64 0)) := (((((HB.setCell (by show w.heap.size ≤ w.heap.size; omega) (.string ⟨#[]⟩) (p := ⟨w.heap.size, 0, none⟩)).setCell (by show w.heap.size ≤ w.heap.size; omega) (.int .i64 0) (p := ⟨w.heap.size, 1, none⟩)).setCell (by show w.heap.size ≤ w.heap.size; omega) (.int .i64 0) (p := ⟨w.heap.size, 2, none⟩)).setCell (by show w.heap.size ≤ w.heap.size; omega) (.int .i64 0) (p := ⟨w.heap.size, 3, none⟩)).setCell (by show w.heap.size ≤ w.heap.size; omega) (.int .i64 0) (p := ⟨w.heap.size, 4, none⟩))
      replace hZ : Blk (World.setCell (World.setCell (World.setCell (World.setCell (World.setCell w3 ⟨w.heap.size, 0, none⟩ (.string ⟨#[]⟩)) ⟨w.heap.size, 1, none⟩ (.int .i64 0)) ⟨w.heap.size, 2, none⟩ (.int .i64 0)) ⟨w.heap.size, 3, none⟩ (.int .i64 0)) ⟨w.heap.size, 4, none⟩ (.int .i64 0)) (w.heap.size) 27 #[.string ⟨#[]⟩, .int .i64 0, .int .i64 0, .int .i64 0, .int .i64 0] := (((((hZ.set_ 0 (.string ⟨#[]⟩)).set_ 1 (.int .i64 0)).set_ 2 (.int .i64 0)).set_ 3 (.int .i64 0)).set_ 4 (.int .i64 0))
      replace hO := (((((hO.far' (p := ⟨w.heap.size, 0, none⟩) (by show _ ≠ w.heap.size; omega) (.string ⟨#[]⟩)).far' (p := ⟨w.heap.size, 1, none⟩) (by show _ ≠ w.heap.size; omega) (.int .i64 0)).far' (p := ⟨w.heap.size, 2, none⟩) (by show _ ≠ w.heap.size; omega) (.int .i64 0)).far' (p := ⟨w.heap.size, 3, none⟩) (by show _ ≠ w.heap.size; omega) (.int .i64 0)).far' (p := ⟨w.heap.size, 4, none⟩) (by show _ ≠ w.heap.size; omega) (.int .i64 0))
      have szW9 : ((World.setCell (World.setCell (World.setCell (World.setCell (World.setCell w3 ⟨w.heap.size, 0, none⟩ (.string ⟨#[]⟩)) ⟨w.heap.size, 1, none⟩ (.int .i64 0)) ⟨w.heap.size, 2, none⟩ (.int .i64 0)) ⟨w.heap.size, 3, none⟩ (.int .i64 0)) ⟨w.heap.size, 4, none⟩ (.int .i64 0))).heap.size = w3.heap.size := by simp [World.setCell]
      generalize World.setCell (World.setCell (World.setCell (World.setCell (World.setCell w3 ⟨w.heap.size, 0, none⟩ (.string ⟨#[]⟩)) ⟨w.heap.size, 1, none⟩ (.int .i64 0)) ⟨w.heap.size, 2, none⟩ (.int .i64 0)) ⟨w.heap.size, 3, none⟩ (.int .i64 0)) ⟨w.heap.size, 4, none⟩ (.int .i64 0) = W9 at *
      have z0 := (hZ.cell 0).trans (show _ = some (.string ⟨#[]⟩) from rfl)
      have z1 := (hZ.cell 1).trans (show _ = some (.int .i64 0) from rfl)
      have z2 := (hZ.cell 2).trans (show _ = some (.int .i64 0) from rfl)
      have z3 := (hZ.cell 3).trans (show _ = some (.int .i64 0) from rfl)
      have z4 := (hZ.cell 4).trans (show _ = some (.int .i64 0) from rfl)
      have o0 := (hO.cell 0).trans (show _ = some (.string ⟨#[]⟩) from rfl)
      have o1 := (hO.cell 1).trans (show _ = some (.int .i64 0) from rfl)
      have o2 := (hO.cell 2).trans (show _ = some (.int .i64 0) from rfl)
      have o3 := (hO.cell 3).trans (show _ = some (.int .i64 0) from rfl)
      have o4 := (hO.cell 4).trans (show _ = some (.int .i64 0) from rfl)
      refine bodyPost_ret (v := .tuple #[.agg #[.string ⟨#[]⟩, .int .i64 0, .int .i64 0, .int .i64 0, .int .i64 0], .bool false]) (by simp [results, Tryz.results50, go_sem, z0, z1, z2, z3, z4]) rfl ?_
      exact ⟨by rw [poO_no HNO.out]; rfl, HB⟩
    obtain ⟨m0, hm0⟩ : ∃ m, x0.size = m + 1 := ⟨x0.size - 1, by omega⟩
    have HF : Hid (∀ r, isR s r → x0.extract 0 m0 = r.motion ∧ v1 = r.yes ∧ v3 = r.no ∧ 0 = r.abst) := Lib.hid (fun r h => by
      obtain ⟨_, e2, e3, e4, e5⟩ := HC.out r h
      refine ⟨e2 m0 hm0, I1.out.symm.trans e3, I3.out.symm.trans e4, ?_⟩
      rcases e5 with ⟨e5, e6⟩ | ⟨e5, e6⟩
      · exact e6.symm
      · have := HN.out; omega)
    have hms : (x0.extract 0 m0).size ≤ maxLen := by rw [ByteArray.size_extract]; unfold maxLen; omega
    have HM0 := Lib.hid hm0; clear hm0
    go_enter Tryz.func50, Tryz.ntmps50
    go_upto_region 2 with fail
    have hq1 : Below w.heap.size w (World.alloc (World.alloc w (.cells #[.string ⟨#[]⟩, .int .i64 0, .int .i64 0, .int .i64 0, .int .i64 0] 27)) (.cells #[.string ⟨#[]⟩, .int .i64 0, .int .i64 0, .int .i64 0, .int .i64 0] 27)) := bl2 w _ _
    have hZ : Blk (World.alloc (World.alloc w (.cells #[.string ⟨#[]⟩, .int .i64 0, .int .i64 0, .int .i64 0, .int .i64 0] 27)) (.cells #[.string ⟨#[]⟩, .int .i64 0, .int .i64 0, .int .i64 0, .int .i64 0] 27)) (w.heap.size) 27 #[.string ⟨#[]⟩, .int .i64 0, .int .i64 0, .int .i64 0, .int .i64 0] := by repeat (first | exact Blk.new _ _ _ | exact Blk.new2 _ _ _ _ | exact Blk.new3 _ _ _ _ _ | exact Blk.new4 _ _ _ _ _ _ | refine Blk.alloc ?_ _)
    have hO : Blk (World.alloc (World.alloc w (.cells #[.string ⟨#[]⟩, .int .i64 0, .int .i64 0, .int .i64 0, .int .i64 0] 27)) (.cells #[.string ⟨#[]⟩, .int .i64 0, .int .i64 0, .int .i64 0, .int .i64 0] 27)) (w.heap.size + 1) 27 #[.string ⟨#[]⟩, .int .i64 0, .int .i64 0, .int .i64 0, .int .i64 0] := by repeat (first | exact Blk.new _ _ _ | exact Blk.new2 _ _ _ _ | exact Blk.new3 _ _ _ _ _ | exact Blk.new4 _ _ _ _ _ _ | refine Blk.alloc ?_ _)
    generalize World.alloc (World.alloc w (.cells #[.string ⟨#[]⟩, .int .i64 0, .int .i64 0, .int .i64 0, .int .i64 0] 27)) (.cells #[.string ⟨#[]⟩, .int .i64 0, .int .i64 0, .int .i64 0, .int .i64 0] 27) = wX at *
    have HB := hq1
    have z0 := (hZ.cell 0).trans (show _ = some (.string ⟨#[]⟩) from rfl)
    have z1 := (hZ.cell 1).trans (show _ = some (.int .i64 0) from rfl)
    have z2 := (hZ.cell 2).trans (show _ = some (.int .i64 0) from rfl)
    have z3 := (hZ.cell 3).trans (show _ = some (.int .i64 0) from rfl)
    have z4 := (hZ.cell 4).trans (show _ = some (.int .i64 0) from rfl)
    have o0 := (hO.cell 0).trans (show _ = some (.string ⟨#[]⟩) from rfl)
    have o1 := (hO.cell 1).trans (show _ = some (.int .i64 0) from rfl)
    have o2 := (hO.cell 2).trans (show _ = some (.int .i64 0) from rfl)
    have o3 := (hO.cell 3).trans (show _ = some (.int .i64 0) from rfl)
    have o4 := (hO.cell 4).trans (show _ = some (.int .i64 0) from rfl)
    have hz0 := hZ.lt
    have ho0 := hO.lt
    go_wp2_with fail
    refine (l1SplitF_is s 44 hs _).mono ?_
    rintro e w2 ⟨A3, c3, rfl, O3, hb2⟩
    have hq2 : Below wX.heap.size wX w2 := bth (by repeat (first | exact Below.refl _ _ | refine Below.alloc ?_ (by first | exact Nat.le_refl _ | (simp <;> omega)) _ | refine Below.setCell ?_ (by first | exact Nat.le_refl _ | (simp <;> omega)) _)) hb2
    replace HB := bth HB hq2
    replace hZ := hZ.below hq2 hZ.lt
    replace z0 := (hZ.cell 0).trans (show _ = some (.string ⟨#[]⟩) from rfl)
    replace z1 := (hZ.cell 1).trans (show _ = some (.int .i64 0) from rfl)
    replace z2 := (hZ.cell 2).trans (show _ = some (.int .i64 0) from rfl)
    replace z3 := (hZ.cell 3).trans (show _ = some (.int .i64 0) from rfl)
    replace z4 := (hZ.cell 4).trans (show _ = some (.int .i64 0) from rfl)
    replace hO := hO.below hq2 hO.lt
    replace o0 := (hO.cell 0).trans (show _ = some (.string ⟨#[]⟩) from rfl)
    replace o1 := (hO.cell 1).trans (show _ = some (.int .i64 0) from rfl)
    replace o2 := (hO.cell 2).trans (show _ = some (.int .i64 0) from rfl)
    replace o3 := (hO.cell 3).trans (show _ = some (.int .i64 0) from rfl)
    replace o4 := (hO.cell 4).trans (show _ = some (.int .i64 0) from rfl)
    have Q3 := O3.rds (hf := bC_len)
    clear O3
    have llp := LP.out
    obtain ⟨bp, op, yp, rfl, hbl, hy, hcy⟩ := Q3.at_ (Below.refl _ _) (k := 0) LP.out
    obtain rfl : p0 = yp := Option.some.inj (HXP.out.symm.trans hy)
    have qp := hcy 0 _ rfl (Kin.self _)
    simp only [Nat.mul_one, Nat.add_zero, Kin.self, Nat.zero_mul] at qp
    clear hy hcy hbl Q3
    go_wp2_with fail
    refine (l1SplitF_is p0 32 hps2 _).mono ?_
    rintro e w3 ⟨A4, c4, rfl, O4, hb3⟩
    have hq3 : Below w2.heap.size w2 w3 := bth (by repeat (first | exact Below.refl _ _ | refine Below.alloc ?_ (by first | exact Nat.le_refl _ | (simp <;> omega)) _ | refine Below.setCell ?_ (by first | exact Nat.le_refl _ | (simp <;> omega)) _)) hb3
    replace HB := bth HB hq3
    replace hZ := hZ.below hq3 hZ.lt
    replace z0 := (hZ.cell 0).trans (show _ = some (.string ⟨#[]⟩) from rfl)
    replace z1 := (hZ.cell 1).trans (show _ = some (.int .i64 0) from rfl)
    replace z2 := (hZ.cell 2).trans (show _ = some (.int .i64 0) from rfl)
    replace z3 := (hZ.cell 3).trans (show _ = some (.int .i64 0) from rfl)
    replace z4 := (hZ.cell 4).trans (show _ = some (.int .i64 0) from rfl)
    replace hO := hO.below hq3 hO.lt
    replace o0 := (hO.cell 0).trans (show _ = some (.string ⟨#[]⟩) from rfl)
    replace o1 := (hO.cell 1).trans (show _ = some (.int .i64 0) from rfl)
    replace o2 := (hO.cell 2).trans (show _ = some (.int .i64 0) from rfl)
    replace o3 := (hO.cell 3).trans (show _ = some (.int .i64 0) from rfl)
    replace o4 := (hO.cell 4).trans (show _ = some (.int .i64 0) from rfl)
    clear qp
    have Q4 := O4.rds (hf := bC_len)
    have ll0 := L0.out
    obtain ⟨bq, oq, y0, rfl, hbq, hy, hcy⟩ := Q4.at_ (Below.refl _ _) (k := 0) L0.out
    obtain rfl : x0 = y0 := Option.some.inj (HX0.out.symm.trans hy)
    have q0 := hcy 0 _ rfl (Kin.self _)
    simp only [Nat.mul_one, Nat.add_zero, Kin.self, Nat.zero_mul] at q0
    clear hy hcy
    have g3 : (((spB 44 s).length : Int) == 3) = true := by rw [H3.out]; rfl
    have d3 : ((spB 44 s).length : Int) = 3 := by rw [H3.out]; rfl
    have g4 : (((spB 32 p0).length : Int) == 4) = true := by rw [HN.out]; rfl
    have d4 : ((spB 32 p0).length : Int) = 4 := by have := HN.out; omega
    go_upto_region 7 with fail
    clear g3 g4 Q4 d3 d4
    have hzw := hZ.lt
    have how := hO.lt
    have hO4lt := Lib.hid (fun k hk => (O4.lt k hk).2)
    clear z0 z1 z2 z3 z4 o0 o1 o2 o3 o4
    obtain ⟨CC, hCC⟩ : ∃ X : World → Prop, ∀ V, X V ↔ (V.cell? ⟨bq, oq, none⟩ = some (.string x0) ∧ bq < V.heap.size) := ⟨_, fun _ => Iff.rfl⟩
    have HCC := Lib.hid hCC; clear hCC
    have hCin : CC w3 := (HCC.out _).2 ⟨q0, hbq⟩
    haveI : Nonempty (Hld CC) := ⟨⟨w3, hCin⟩⟩
    replace q0 := fun K : Hld CC => ((HCC.out _).1 K.holds).1
    refine wp_region_mk (pqS x0) CC [([3, 4, 5], 6), ([], 10)] [0, 1, 2, 7, 8, 9] [([], 11)] [] (by kernel_rfl) (by kernel_rfl) ((HCC.out _).2 ((HCC.out w3).1 hCin)) (fun W W' h k => (HCC.out _).2 ⟨(k.cell (p := ⟨bq, oq, none⟩) ((HCC.out _).1 h).2).trans ((HCC.out _).1 h).1, Nat.lt_of_lt_of_le ((HCC.out _).1 h).2 k.size⟩) ?_
    intro σ
    refine wpMk1_cons (some 49) rfl (.int .i64 (x0.size : Int)) rfl fun K1 hK1 => ?_
    change wpQuiet _ _ _ _ (_ :: _ :: _ :: []) _
    repeat (go_big_quiet_step (fail))
    refine wpQuiet_nil ?_
    refine ⟨fun k hpar => ?_, hK1 _ ?_⟩
    · change wpList _ _ _ (_ :: []) _ _
      go_wp2
      exact Nrm_mk ⟨0, rfl, Below.refl _ _, trivial⟩
    simp only [Act.put]
    go_simp
    refine wpMk1_cons (some 8) rfl (.pointer (some ⟨σ 10, 0, none⟩)) rfl fun K1 hK1 => ?_
    change wpQuiet _ _ _ _ ([]) _
    refine wpQuiet_nil ?_
    refine ⟨fun k hpar => ?_, hK1 _ ?_⟩
    · change wpList _ _ _ (_ :: []) _ _
      go_wp2
      exact Nrm_mk ⟨k.world.heap.size, rfl, bl1 _ _, rfl, Blk.new _ _ _⟩
    simp only [Act.put]
    go_simp
    have hm0 := HM0.out
    refine wpMk1_last ?_
    change wpQuiet _ _ _ _ (_ :: _ :: _ :: _ :: _ :: _ :: []) _
    repeat (go_big_quiet_step (fail))
    refine wpQuiet_nil ?_
    intro V0 V W hM hW
    clear hm0
    obtain ⟨hg, hG⟩ : (V0 10).heap.size = σ 10 ∧ Blk (V 10) (σ 10) 27 #[.string ⟨#[]⟩, .int .i64 0, .int .i64 0, .int .i64 0, .int .i64 0] := hM.post 10 (by simp)
    have hz11 : w3.heap.size ≤ σ 10 := hg ▸ (hM.from0 10 (by simp)).size
    have hGG := hG.below (hM.later 10 (by simp)) hG.lt
    have hMW : Below w3.heap.size w3 W := (hM.whole 6 (by simp)).undrew
    have neO4 : ∀ k, (Value.slice (some ⟨bq, oq, none⟩) (spB 32 p0).length c4).ownBlock = some k → k ≠ σ 10 := fun k hk => by have := hO4lt.out k hk; omega
    clear hM hG hg hW q0
    generalize σ 10 = g at *
    have hq4 : Below w3.heap.size w3 W := bth (by repeat (first | exact Below.refl _ _ | refine Below.alloc ?_ (by first | exact Nat.le_refl _ | (simp <;> omega)) _ | refine Below.setCell ?_ (by first | exact Nat.le_refl _ | (simp <;> omega)) _)) hMW
    replace HB := bth HB hq4
    replace O4 := O4.later hq4
    replace hZ := hZ.below hq4 hZ.lt
    replace z0 := (hZ.cell 0).trans (show _ = some (.string ⟨#[]⟩) from rfl)
    replace z1 := (hZ.cell 1).trans (show _ = some (.int .i64 0) from rfl)
    replace z2 := (hZ.cell 2).trans (show _ = some (.int .i64 0) from rfl)
    replace z3 := (hZ.cell 3).trans (show _ = some (.int .i64 0) from rfl)
    replace z4 := (hZ.cell 4).trans (show _ = some (.int .i64 0) from rfl)
    replace hO := hO.below hq4 hO.lt
    replace o0 := (hO.cell 0).trans (show _ = some (.string ⟨#[]⟩) from rfl)
    replace o1 := (hO.cell 1).trans (show _ = some (.int .i64 0) from rfl)
    replace o2 := (hO.cell 2).trans (show _ = some (.int .i64 0) from rfl)
    replace o3 := (hO.cell 3).trans (show _ = some (.int .i64 0) from rfl)
    replace o4 := (hO.cell 4).trans (show _ = some (.int .i64 0) from rfl)
    have g0 := (hGG.cell 0).trans (show _ = some (.string ⟨#[]⟩) from rfl)
    have g1 := (hGG.cell 1).trans (show _ = some (.int .i64 0) from rfl)
    have g2 := (hGG.cell 2).trans (show _ = some (.int .i64 0) from rfl)
    have g3 := (hGG.cell 3).trans (show _ = some (.int .i64 0) from rfl)
    have g4 := (hGG.cell 4).trans (show _ = some (.int .i64 0) from rfl)
    refine wpMix_cons fun K2 hK2 => ?_
    change wpQuiet _ _ _ _ ([]) _
    refine wpQuiet_nil ?_
    change wpList _ _ _ (_ :: []) _ _
    have fhGG0 := hGG.frozen 0
    have fhGG1 := hGG.frozen 1
    have fhGG2 := hGG.frozen 2
    have fhGG3 := hGG.frozen 3
    have fhGG4 := hGG.frozen 4
    have yhZ := hZ.lt
    have yhO := hO.lt
    have yhGG := hGG.lt
    go_wp2
    clear fhGG0 fhGG1 fhGG2 fhGG3 fhGG4 yhZ yhO yhGG
    have hG0 : w.heap.size ≤ g := by have := HB.size; omega
    clear z0 z1 z2 z3 z4 o0 o1 o2 o3 o4 g0 g1 g2 g3 g4
    replace HB : Below w.heap.size w (World.setCell (World.setCell (World.setCell (World.setCell (World.setCell W ⟨g, 0, none⟩ (.string (x0.extract 0 m0))) ⟨g, 1, none⟩ (.int .i64 0)) ⟨g, 2, none⟩ (.int .i64 0)) ⟨g, 3, none⟩ (.int .i64 0)) ⟨g, 4, none⟩ (.int .i64 0)) := (((((HB.setCell (by show w.heap.size ≤ g; omega) (.string (x0.extract 0 m0)) (p := ⟨g, 0, none⟩)).setCell (by show w.heap.size ≤ g; omega) (.int .i64 0) (p := ⟨g, 1, none⟩)).setCell (by show w.heap.size ≤ g; omega) (.int .i64 0) (p := ⟨g, 2, none⟩)).setCell (by show w.heap.size ≤ g; omega) (.int .i64 0) (p := ⟨g, 3, none⟩)).setCell (by show w.heap.size ≤ g; omega) (.int .i64 0) (p := ⟨g, 4, none⟩))
    replace hZ := (((((hZ.far' (p := ⟨g, 0, none⟩) (by show _ ≠ g; omega) (.string (x0.extract 0 m0))).far' (p := ⟨g, 1, none⟩) (by show _ ≠ g; omega) (.int .i64 0)).far' (p := ⟨g, 2, none⟩) (by show _ ≠ g; omega) (.int .i64 0)).far' (p := ⟨g, 3, none⟩) (by show _ ≠ g; omega) (.int .i64 0)).far' (p := ⟨g, 4, none⟩) (by show _ ≠ g; omega) (.int .i64 0))
    replace hO := (((((hO.far' (p := ⟨g, 0, none⟩) (by show _ ≠ g; omega) (.string (x0.extract 0 m0))).far' (p := ⟨g, 1, none⟩) (by show _ ≠ g; omega) (.int .i64 0)).far' (p := ⟨g, 2, none⟩) (by show _ ≠ g; omega) (.int .i64 0)).far' (p := ⟨g, 3, none⟩) (by show _ ≠ g; omega) (.int .i64 0)).far' (p := ⟨g, 4, none⟩) (by show _ ≠ g; omega) (.int .i64 0))
    replace hGG : Blk (World.setCell (World.setCell (World.setCell (World.setCell (World.setCell W ⟨g, 0, none⟩ (.string (x0.extract 0 m0))) ⟨g, 1, none⟩ (.int .i64 0)) ⟨g, 2, none⟩ (.int .i64 0)) ⟨g, 3, none⟩ (.int .i64 0)) ⟨g, 4, none⟩ (.int .i64 0)) (g) 27 #[.string (x0.extract 0 m0), .int .i64 0, .int .i64 0, .int .i64 0, .int .i64 0] := (((((hGG.set_ 0 (.string (x0.extract 0 m0))).set_ 1 (.int .i64 0)).set_ 2 (.int .i64 0)).set_ 3 (.int .i64 0)).set_ 4 (.int .i64 0))
    replace O4 := O4.kept (grown_set (j := 4) (grown_set (j := 3) (grown_set (j := 2) (grown_set (j := 1) (grown_set (j := 0) (grown_refl W (some (g))) (.string (x0.extract 0 m0))) (.int .i64 0)) (.int .i64 0)) (.int .i64 0)) (.int .i64 0)) (fun k hk e => by have h1 := (O4.lt k hk); have h2 : k = g := (Option.some.inj e); first | omega | exact absurd h2 (neO4 k hk))
    have szW3 : ((World.setCell (World.setCell (World.setCell (World.setCell (World.setCell W ⟨g, 0, none⟩ (.string (x0.extract 0 m0))) ⟨g, 1, none⟩ (.int .i64 0)) ⟨g, 2, none⟩ (.int .i64 0)) ⟨g, 3, none⟩ (.int .i64 0)) ⟨g, 4, none⟩ (.int .i64 0))).heap.size = W.heap.size := by simp [World.setCell]
    generalize World.setCell (World.setCell (World.setCell (World.setCell (World.setCell W ⟨g, 0, none⟩ (.string (x0.extract 0 m0))) ⟨g, 1, none⟩ (.int .i64 0)) ⟨g, 2, none⟩ (.int .i64 0)) ⟨g, 3, none⟩ (.int .i64 0)) ⟨g, 4, none⟩ (.int .i64 0) = W3 at *
    have z0 := (hZ.cell 0).trans (show _ = some (.string ⟨#[]⟩) from rfl)
    have z1 := (hZ.cell 1).trans (show _ = some (.int .i64 0) from rfl)
    have z2 := (hZ.cell 2).trans (show _ = some (.int .i64 0) from rfl)
    have z3 := (hZ.cell 3).trans (show _ = some (.int .i64 0) from rfl)
    have z4 := (hZ.cell 4).trans (show _ = some (.int .i64 0) from rfl)
    have o0 := (hO.cell 0).trans (show _ = some (.string ⟨#[]⟩) from rfl)
    have o1 := (hO.cell 1).trans (show _ = some (.int .i64 0) from rfl)
    have o2 := (hO.cell 2).trans (show _ = some (.int .i64 0) from rfl)
    have o3 := (hO.cell 3).trans (show _ = some (.int .i64 0) from rfl)
    have o4 := (hO.cell 4).trans (show _ = some (.int .i64 0) from rfl)
    have g0 := (hGG.cell 0).trans (show _ = some (.string (x0.extract 0 m0)) from rfl)
    have g1 := (hGG.cell 1).trans (show _ = some (.int .i64 0) from rfl)
    have g2 := (hGG.cell 2).trans (show _ = some (.int .i64 0) from rfl)
    have g3 := (hGG.cell 3).trans (show _ = some (.int .i64 0) from rfl)
    have g4 := (hGG.cell 4).trans (show _ = some (.int .i64 0) from rfl)
    have Q4 := O4.rds (hf := bC_len)
    obtain ⟨b', o', y', e', hbl, hy, hcy⟩ := Q4.at_ (Below.refl _ _) (k := 0) L0.out
    simp only [Option.some.injEq, Addr.mk.injEq, and_true] at e'
    obtain ⟨rfl, rfl⟩ := e'
    obtain rfl : x0 = y' := Option.some.inj (HX0.out.symm.trans hy)
    have q9 := hcy 0 _ rfl (Kin.self _)
    simp only [Nat.mul_one, Nat.add_zero, Kin.self, Nat.zero_mul] at q9
    have hC9 : CC W3 := (HCC.out _).2 ⟨q9, hbl⟩
    clear q9 hy hcy hbl Q4
    refine Nrm_intro (hC9) (hK2 _ _ ?_)
    refine wpMix_last ?_
    change wpQuiet _ _ _ _ ([]) _
    refine wpQuiet_nil ?_
    clear hC9 hCin HCC
    have Q4 := O4.rds (hf := bC_len)
    obtain ⟨b', o', y', e', hbl, hy, hcy⟩ := Q4.at_ (Below.refl _ _) (k := 1) L1.out
    simp only [Option.some.injEq, Addr.mk.injEq, and_true] at e'
    obtain ⟨rfl, rfl⟩ := e'
    obtain rfl : x1 = y' := Option.some.inj (HX1.out.symm.trans hy)
    have q1 := hcy 0 _ rfl (Kin.self _)
    simp only [Nat.mul_one, Nat.add_zero, Kin.self] at q1
    clear hy hcy hbl Q4
    have ll1 := L1.out
    go_wp2_with fail
    refine (l1ReadV_is x1 y1 v1 b1 H1.out _).mono ?_
    rintro e w5 ⟨rfl, hb5⟩
    have hq5 : Below W3.heap.size W3 w5 := bth (by repeat (first | exact Below.refl _ _ | refine Below.alloc ?_ (by first | exact Nat.le_refl _ | (simp <;> omega)) _ | refine Below.setCell ?_ (by first | exact Nat.le_refl _ | (simp <;> omega)) _)) hb5
    replace HB := bth HB hq5
    replace O4 := O4.later hq5
    replace hZ := hZ.below hq5 hZ.lt
    replace z0 := (hZ.cell 0).trans (show _ = some (.string ⟨#[]⟩) from rfl)
    replace z1 := (hZ.cell 1).trans (show _ = some (.int .i64 0) from rfl)
    replace z2 := (hZ.cell 2).trans (show _ = some (.int .i64 0) from rfl)
    replace z3 := (hZ.cell 3).trans (show _ = some (.int .i64 0) from rfl)
    replace z4 := (hZ.cell 4).trans (show _ = some (.int .i64 0) from rfl)
    replace hO := hO.below hq5 hO.lt
    replace o0 := (hO.cell 0).trans (show _ = some (.string ⟨#[]⟩) from rfl)
    replace o1 := (hO.cell 1).trans (show _ = some (.int .i64 0) from rfl)
    replace o2 := (hO.cell 2).trans (show _ = some (.int .i64 0) from rfl)
    replace o3 := (hO.cell 3).trans (show _ = some (.int .i64 0) from rfl)
    replace o4 := (hO.cell 4).trans (show _ = some (.int .i64 0) from rfl)
    replace hGG := hGG.below hq5 hGG.lt
    replace g0 := (hGG.cell 0).trans (show _ = some (.string (x0.extract 0 m0)) from rfl)
    replace g1 := (hGG.cell 1).trans (show _ = some (.int .i64 0) from rfl)
    replace g2 := (hGG.cell 2).trans (show _ = some (.int .i64 0) from rfl)
    replace g3 := (hGG.cell 3).trans (show _ = some (.int .i64 0) from rfl)
    replace g4 := (hGG.cell 4).trans (show _ = some (.int .i64 0) from rfl)
    clear q1
    have fhGG2 := hGG.frozen 2
    have yhZ := hZ.lt
    have yhO := hO.lt
    have yhGG := hGG.lt
    go_upto_region 9 with fail
    clear fhGG2 yhZ yhO yhGG
    clear z0 z1 z2 z3 z4 o0 o1 o2 o3 o4 g0 g1 g2 g3 g4
    replace HB : Below w.heap.size w (World.setCell w5 ⟨g, 2, none⟩ (.int .i64 v1)) := (HB.setCell (by show w.heap.size ≤ g; omega) (.int .i64 v1) (p := ⟨g, 2, none⟩))
    replace hZ := (hZ.far' (p := ⟨g, 2, none⟩) (by show _ ≠ g; omega) (.int .i64 v1))
    replace hO := (hO.far' (p := ⟨g, 2, none⟩) (by show _ ≠ g; omega) (.int .i64 v1))
    replace hGG : Blk (World.setCell w5 ⟨g, 2, none⟩ (.int .i64 v1)) (g) 27 #[.string (x0.extract 0 m0), .int .i64 0, .int .i64 v1, .int .i64 0, .int .i64 0] := (hGG.set_ 2 (.int .i64 v1))
    replace O4 := O4.kept (grown_set (j := 2) (grown_refl w5 (some (g))) (.int .i64 v1)) (fun k hk e => by have h1 := (O4.lt k hk); have h2 : k = g := (Option.some.inj e); first | omega | exact absurd h2 (neO4 k hk))
    have szW5 : ((World.setCell w5 ⟨g, 2, none⟩ (.int .i64 v1))).heap.size = w5.heap.size := by simp [World.setCell]
    generalize World.setCell w5 ⟨g, 2, none⟩ (.int .i64 v1) = W5 at *
    have z0 := (hZ.cell 0).trans (show _ = some (.string ⟨#[]⟩) from rfl)
    have z1 := (hZ.cell 1).trans (show _ = some (.int .i64 0) from rfl)
    have z2 := (hZ.cell 2).trans (show _ = some (.int .i64 0) from rfl)
    have z3 := (hZ.cell 3).trans (show _ = some (.int .i64 0) from rfl)
    have z4 := (hZ.cell 4).trans (show _ = some (.int .i64 0) from rfl)
    have o0 := (hO.cell 0).trans (show _ = some (.string ⟨#[]⟩) from rfl)
    have o1 := (hO.cell 1).trans (show _ = some (.int .i64 0) from rfl)
    have o2 := (hO.cell 2).trans (show _ = some (.int .i64 0) from rfl)
    have o3 := (hO.cell 3).trans (show _ = some (.int .i64 0) from rfl)
    have o4 := (hO.cell 4).trans (show _ = some (.int .i64 0) from rfl)
    have g0 := (hGG.cell 0).trans (show _ = some (.string (x0.extract 0 m0)) from rfl)
    have g1 := (hGG.cell 1).trans (show _ = some (.int .i64 0) from rfl)
    have g2 := (hGG.cell 2).trans (show _ = some (.int .i64 v1) from rfl)
    have g3 := (hGG.cell 3).trans (show _ = some (.int .i64 0) from rfl)
    have g4 := (hGG.cell 4).trans (show _ = some (.int .i64 0) from rfl)
    have Q4 := O4.rds (hf := bC_len)
    obtain ⟨b', o', y', e', hbl, hy, hcy⟩ := Q4.at_ (Below.refl _ _) (k := 3) L3.out
    simp only [Option.some.injEq, Addr.mk.injEq, and_true] at e'
    obtain ⟨rfl, rfl⟩ := e'
    obtain rfl : x3 = y' := Option.some.inj (HX3.out.symm.trans hy)
    have q3 := hcy 0 _ rfl (Kin.self _)
    simp only [Nat.mul_one, Nat.add_zero, Kin.self] at q3
    clear hy hcy hbl Q4
    have ll3 := L3.out
    go_wp2_with fail
    refine (l1ReadV_is x3 y3 v3 b3 HR3.out _).mono ?_
    rintro e w6 ⟨rfl, hb6⟩
    have hq6 : Below W5.heap.size W5 w6 := bth (by repeat (first | exact Below.refl _ _ | refine Below.alloc ?_ (by first | exact Nat.le_refl _ | (simp <;> omega)) _ | refine Below.setCell ?_ (by first | exact Nat.le_refl _ | (simp <;> omega)) _)) hb6
    replace HB := bth HB hq6
    replace O4 := O4.later hq6
    replace hZ := hZ.below hq6 hZ.lt
    replace z0 := (hZ.cell 0).trans (show _ = some (.string ⟨#[]⟩) from rfl)
    replace z1 := (hZ.cell 1).trans (show _ = some (.int .i64 0) from rfl)
    replace z2 := (hZ.cell 2).trans (show _ = some (.int .i64 0) from rfl)
    replace z3 := (hZ.cell 3).trans (show _ = some (.int .i64 0) from rfl)
    replace z4 := (hZ.cell 4).trans (show _ = some (.int .i64 0) from rfl)
    replace hO := hO.below hq6 hO.lt
    replace o0 := (hO.cell 0).trans (show _ = some (.string ⟨#[]⟩) from rfl)
    replace o1 := (hO.cell 1).trans (show _ = some (.int .i64 0) from rfl)
    replace o2 := (hO.cell 2).trans (show _ = some (.int .i64 0) from rfl)
    replace o3 := (hO.cell 3).trans (show _ = some (.int .i64 0) from rfl)
    replace o4 := (hO.cell 4).trans (show _ = some (.int .i64 0) from rfl)
    replace hGG := hGG.below hq6 hGG.lt
    replace g0 := (hGG.cell 0).trans (show _ = some (.string (x0.extract 0 m0)) from rfl)
    replace g1 := (hGG.cell 1).trans (show _ = some (.int .i64 0) from rfl)
    replace g2 := (hGG.cell 2).trans (show _ = some (.int .i64 v1) from rfl)
    replace g3 := (hGG.cell 3).trans (show _ = some (.int .i64 0) from rfl)
    replace g4 := (hGG.cell 4).trans (show _ = some (.int .i64 0) from rfl)
    clear q3
    have fhGG3 := hGG.frozen 3
    have yhZ := hZ.lt
    have yhO := hO.lt
    have yhGG := hGG.lt
    go_upto_region 10 with fail
    clear fhGG3 yhZ yhO yhGG
    clear z0 z1 z2 z3 z4 o0 o1 o2 o3 o4 g0 g1 g2 g3 g4
    replace HB : Below w.heap.size w (World.setCell w6 ⟨g, 3, none⟩ (.int .i64 v3)) := (HB.setCell (by show w.heap.size ≤ g; omega) (.int .i64 v3) (p := ⟨g, 3, none⟩))
    replace hZ := (hZ.far' (p := ⟨g, 3, none⟩) (by show _ ≠ g; omega) (.int .i64 v3))
    replace hO := (hO.far' (p := ⟨g, 3, none⟩) (by show _ ≠ g; omega) (.int .i64 v3))
    replace hGG : Blk (World.setCell w6 ⟨g, 3, none⟩ (.int .i64 v3)) (g) 27 #[.string (x0.extract 0 m0), .int .i64 0, .int .i64 v1, .int .i64 v3, .int .i64 0] := (hGG.set_ 3 (.int .i64 v3))
    replace O4 := O4.kept (grown_set (j := 3) (grown_refl w6 (some (g))) (.int .i64 v3)) (fun k hk e => by have h1 := (O4.lt k hk); have h2 : k = g := (Option.some.inj e); first | omega | exact absurd h2 (neO4 k hk))
    have szW6 : ((World.setCell w6 ⟨g, 3, none⟩ (.int .i64 v3))).heap.size = w6.heap.size := by simp [World.setCell]
    generalize World.setCell w6 ⟨g, 3, none⟩ (.int .i64 v3) = W6 at *
    have z0 := (hZ.cell 0).trans (show _ = some (.string ⟨#[]⟩) from rfl)
    have z1 := (hZ.cell 1).trans (show _ = some (.int .i64 0) from rfl)
    have z2 := (hZ.cell 2).trans (show _ = some (.int .i64 0) from rfl)
    have z3 := (hZ.cell 3).trans (show _ = some (.int .i64 0) from rfl)
    have z4 := (hZ.cell 4).trans (show _ = some (.int .i64 0) from rfl)
    have o0 := (hO.cell 0).trans (show _ = some (.string ⟨#[]⟩) from rfl)
    have o1 := (hO.cell 1).trans (show _ = some (.int .i64 0) from rfl)
    have o2 := (hO.cell 2).trans (show _ = some (.int .i64 0) from rfl)
    have o3 := (hO.cell 3).trans (show _ = some (.int .i64 0) from rfl)
    have o4 := (hO.cell 4).trans (show _ = some (.int .i64 0) from rfl)
    have g0 := (hGG.cell 0).trans (show _ = some (.string (x0.extract 0 m0)) from rfl)
    have g1 := (hGG.cell 1).trans (show _ = some (.int .i64 0) from rfl)
    have g2 := (hGG.cell 2).trans (show _ = some (.int .i64 v1) from rfl)
    have g3 := (hGG.cell 3).trans (show _ = some (.int .i64 v3) from rfl)
    have g4 := (hGG.cell 4).trans (show _ = some (.int .i64 0) from rfl)
    have d7 : ¬ ((spB 32 p0).length : Int) = 7 := by have := HN.out; omega
    have g7 : (((spB 32 p0).length : Int) == 7) = false := by rw [HN.out]; rfl
    clear O4 neO4 
    go_wp2
    go_loopw [3, 9] (fun t i wr => ∃ (k : Nat) (nd : Int), 1 ≤ k ∧ k ≤ 4 ∧ t = .bool false ∧ i = .int .i64 k ∧ Below w.heap.size w wr ∧ Blk wr g 27 #[.string (x0.extract 0 m0), .int .i64 nd, .int .i64 v1, .int .i64 v3, .int .i64 0] ∧ Blk wr w.heap.size 27 #[.string ⟨#[]⟩, .int .i64 0, .int .i64 0, .int .i64 0, .int .i64 0] ∧ Blk wr (w.heap.size + 1) 27 #[.string ⟨#[]⟩, .int .i64 0, .int .i64 0, .int .i64 0, .int .i64 0] ∧ ∀ r, isR s r → (k : Int) ≤ r.need) (fun _ i _ => 4 - (intOf i).toNat)
    case atStart => exact ⟨1, 0, Nat.le_refl _, by omega, rfl, rfl, HB, hGG, hZ, hO, fun r h => by have := resB_bd' h.1; omega⟩
    case round =>
      clear z0 z1 z2 z3 z4 o0 o1 o2 o3 o4 g0 g1 g2 g3 g4 hGG hZ hO HB
      obtain ⟨k, nd, hk1, hk4, rfl, rfl, HB, hGG, hZ, hO, hmin⟩ := hrel
      have HMIN := Lib.hid hmin; clear hmin
      have g0 := (hGG.cell 0).trans (show _ = some (.string (x0.extract 0 m0)) from rfl)
      have g1 := (hGG.cell 1).trans (show _ = some (.int .i64 nd) from rfl)
      have g2 := (hGG.cell 2).trans (show _ = some (.int .i64 v1) from rfl)
      have g3 := (hGG.cell 3).trans (show _ = some (.int .i64 v3) from rfl)
      have g4 := (hGG.cell 4).trans (show _ = some (.int .i64 0) from rfl)
      have z0 := (hZ.cell 0).trans (show _ = some (.string ⟨#[]⟩) from rfl)
      have z1 := (hZ.cell 1).trans (show _ = some (.int .i64 0) from rfl)
      have z2 := (hZ.cell 2).trans (show _ = some (.int .i64 0) from rfl)
      have z3 := (hZ.cell 3).trans (show _ = some (.int .i64 0) from rfl)
      have z4 := (hZ.cell 4).trans (show _ = some (.int .i64 0) from rfl)
      have o0 := (hO.cell 0).trans (show _ = some (.string ⟨#[]⟩) from rfl)
      have o1 := (hO.cell 1).trans (show _ = some (.int .i64 0) from rfl)
      have o2 := (hO.cell 2).trans (show _ = some (.int .i64 0) from rfl)
      have o3 := (hO.cell 3).trans (show _ = some (.int .i64 0) from rfl)
      have o4 := (hO.cell 4).trans (show _ = some (.int .i64 0) from rfl)
      by_cases hk : k = 4
      · subst hk
        have HNO : Hid (¬ ∃ r, isR s r) := Lib.hid (fun ⟨r, h⟩ => by have h1 := HMIN.out r h; have := resB_bd' h.1; omega)
        have fhZ0 := hZ.frozen 0
        have fhZ1 := hZ.frozen 1
        have fhZ2 := hZ.frozen 2
        have fhZ3 := hZ.frozen 3
        have fhZ4 := hZ.frozen 4
        have yhGG := hGG.lt
        have yhZ := hZ.lt
        have yhO := hO.lt
        go_wp2
        clear g0 g1 g2 g3 g4 z0 z1 z2 z3 z4 o0 o1 o2 o3 o4
        replace HB : Below w.heap.size w (World.setCell (World.setCell (World.setCell (World.setCell (World.setCell wr ⟨w.heap.size, 0, none⟩ (.string ⟨#[]⟩)) ⟨w.heap.size, 1, none⟩ (.int .i64 0)) ⟨w.heap.size, 2, none⟩ (.int .i64 0)) ⟨w.heap.size, 3, none⟩ (.int .i64 0)) ⟨w.heap.size, 4, none⟩ (.int .i64 0)) := (((((HB.setCell (by show w.heap.size ≤ w.heap.size; omega) (.string ⟨#[]⟩) (p := ⟨w.heap.size, 0, none⟩)).setCell (by show w.heap.size ≤ w.heap.size; omega) (.int .i64 0) (p := ⟨w.heap.size, 1, none⟩)).setCell (by show w.heap.size ≤ w.heap.size; omega) (.int .i64 0) (p := ⟨w.heap.size, 2, none⟩)).setCell (by show w.heap.size ≤ w.heap.size; omega) (.int .i64 0) (p := ⟨w.heap.size, 3, none⟩)).setCell (by show w.heap.size ≤ w.heap.size; omega) (.int .i64 0) (p := ⟨w.heap.size, 4, none⟩))
        replace hGG := (((((hGG.far' (p := ⟨w.heap.size, 0, none⟩) (by show _ ≠ w.heap.size; omega) (.string ⟨#[]⟩)).far' (p := ⟨w.heap.size, 1, none⟩) (by show _ ≠ w.heap.size; omega) (.int .i64 0)).far' (p := ⟨w.heap.size, 2, none⟩) (by show _ ≠ w.heap.size; omega) (.int .i64 0)).far' (p := ⟨w.heap.size, 3, none⟩) (by show _ ≠ w.heap.size; omega) (.int .i64 0)).far' (p := ⟨w.heap.size, 4, none⟩) (by show _ ≠ w.heap.size; omega) (.int .i64 0))
        replace hZ : Blk (World.setCell (World.setCell (World.setCell (World.setCell (World.setCell wr ⟨w.heap.size, 0, none⟩ (.string ⟨#[]⟩)) ⟨w.heap.size, 1, none⟩ (.int .i64 0)) ⟨w.heap.size, 2, none⟩ (.int .i64 0)) ⟨w.heap.size, 3, none⟩ (.int .i64 0)) ⟨w.heap.size, 4, none⟩ (.int .i64 0)) (w.heap.size) 27 #[.string ⟨#[]⟩, .int .i64 0, .int .i64 0, .int .i64 0, .int .i64 0] := (((((hZ.set_ 0 (.string ⟨#[]⟩)).set_ 1 (.int .i64 0)).set_ 2 (.int .i64 0)).set_ 3 (.int .i64 0)).set_ 4 (.int .i64 0))
        replace hO := (((((hO.far' (p := ⟨w.heap.size, 0, none⟩) (by show _ ≠ w.heap.size; omega) (.string ⟨#[]⟩)).far' (p := ⟨w.heap.size, 1, none⟩) (by show _ ≠ w.heap.size; omega) (.int .i64 0)).far' (p := ⟨w.heap.size, 2, none⟩) (by show _ ≠ w.heap.size; omega) (.int .i64 0)).far' (p := ⟨w.heap.size, 3, none⟩) (by show _ ≠ w.heap.size; omega) (.int .i64 0)).far' (p := ⟨w.heap.size, 4, none⟩) (by show _ ≠ w.heap.size; omega) (.int .i64 0))
        have szW9 : ((World.setCell (World.setCell (World.setCell (World.setCell (World.setCell wr ⟨w.heap.size, 0, none⟩ (.string ⟨#[]⟩)) ⟨w.heap.size, 1, none⟩ (.int .i64 0)) ⟨w.heap.size, 2, none⟩ (.int .i64 0)) ⟨w.heap.size, 3, none⟩ (.int .i64 0)) ⟨w.heap.size, 4, none⟩ (.int .i64 0))).heap.size = wr.heap.size := by simp [World.setCell]
        generalize World.setCell (World.setCell (World.setCell (World.setCell (World.setCell wr ⟨w.heap.size, 0, none⟩ (.string ⟨#[]⟩)) ⟨w.heap.size, 1, none⟩ (.int .i64 0)) ⟨w.heap.size, 2, none⟩ (.int .i64 0)) ⟨w.heap.size, 3, none⟩ (.int .i64 0)) ⟨w.heap.size, 4, none⟩ (.int .i64 0) = W9 at *
        have g0 := (hGG.cell 0).trans (show _ = some (.string (x0.extract 0 m0)) from rfl)
        have g1 := (hGG.cell 1).trans (show _ = some (.int .i64 nd) from rfl)
        have g2 := (hGG.cell 2).trans (show _ = some (.int .i64 v1) from rfl)
        have g3 := (hGG.cell 3).trans (show _ = some (.int .i64 v3) from rfl)
        have g4 := (hGG.cell 4).trans (show _ = some (.int .i64 0) from rfl)
        have z0 := (hZ.cell 0).trans (show _ = some (.string ⟨#[]⟩) from rfl)
        have z1 := (hZ.cell 1).trans (show _ = some (.int .i64 0) from rfl)
        have z2 := (hZ.cell 2).trans (show _ = some (.int .i64 0) from rfl)
        have z3 := (hZ.cell 3).trans (show _ = some (.int .i64 0) from rfl)
        have z4 := (hZ.cell 4).trans (show _ = some (.int .i64 0) from rfl)
        have o0 := (hO.cell 0).trans (show _ = some (.string ⟨#[]⟩) from rfl)
        have o1 := (hO.cell 1).trans (show _ = some (.int .i64 0) from rfl)
        have o2 := (hO.cell 2).trans (show _ = some (.int .i64 0) from rfl)
        have o3 := (hO.cell 3).trans (show _ = some (.int .i64 0) from rfl)
        have o4 := (hO.cell 4).trans (show _ = some (.int .i64 0) from rfl)
        refine bodyPost_ret (v := .tuple #[.agg #[.string ⟨#[]⟩, .int .i64 0, .int .i64 0, .int .i64 0, .int .i64 0], .bool false]) (by simp [results, Tryz.results50, go_sem, z0, z1, z2, z3, z4]) rfl ?_
        exact ⟨by rw [poO_no HNO.out]; rfl, HB⟩
      have hk3 : (k : Int) ≤ 3 := by omega
      have fhGG1 := hGG.frozen 1
      have yhGG := hGG.lt
      have yhZ := hZ.lt
      have yhO := hO.lt
      go_upto_region 16 with fail
      clear fhGG1 yhGG yhZ yhO
      clear g0 g1 g2 g3 g4 z0 z1 z2 z3 z4 o0 o1 o2 o3 o4
      replace HB : Below w.heap.size w (World.setCell wr ⟨g, 1, none⟩ (.int .i64 k)) := (HB.setCell (by show w.heap.size ≤ g; omega) (.int .i64 k) (p := ⟨g, 1, none⟩))
      replace hGG : Blk (World.setCell wr ⟨g, 1, none⟩ (.int .i64 k)) (g) 27 #[.string (x0.extract 0 m0), .int .i64 k, .int .i64 v1, .int .i64 v3, .int .i64 0] := (hGG.set_ 1 (.int .i64 k))
      replace hZ := (hZ.far' (p := ⟨g, 1, none⟩) (by show _ ≠ g; omega) (.int .i64 k))
      replace hO := (hO.far' (p := ⟨g, 1, none⟩) (by show _ ≠ g; omega) (.int .i64 k))
      have szW8 : ((World.setCell wr ⟨g, 1, none⟩ (.int .i64 k))).heap.size = wr.heap.size := by simp [World.setCell]
      generalize World.setCell wr ⟨g, 1, none⟩ (.int .i64 k) = W8 at *
      have g0 := (hGG.cell 0).trans (show _ = some (.string (x0.extract 0 m0)) from rfl)
      have g1 := (hGG.cell 1).trans (show _ = some (.int .i64 k) from rfl)
      have g2 := (hGG.cell 2).trans (show _ = some (.int .i64 v1) from rfl)
      have g3 := (hGG.cell 3).trans (show _ = some (.int .i64 v3) from rfl)
      have g4 := (hGG.cell 4).trans (show _ = some (.int .i64 0) from rfl)
      have z0 := (hZ.cell 0).trans (show _ = some (.string ⟨#[]⟩) from rfl)
      have z1 := (hZ.cell 1).trans (show _ = some (.int .i64 0) from rfl)
      have z2 := (hZ.cell 2).trans (show _ = some (.int .i64 0) from rfl)
      have z3 := (hZ.cell 3).trans (show _ = some (.int .i64 0) from rfl)
      have z4 := (hZ.cell 4).trans (show _ = some (.int .i64 0) from rfl)
      have o0 := (hO.cell 0).trans (show _ = some (.string ⟨#[]⟩) from rfl)
      have o1 := (hO.cell 1).trans (show _ = some (.int .i64 0) from rfl)
      have o2 := (hO.cell 2).trans (show _ = some (.int .i64 0) from rfl)
      have o3 := (hO.cell 3).trans (show _ = some (.int .i64 0) from rfl)
      have o4 := (hO.cell 4).trans (show _ = some (.int .i64 0) from rfl)
      by_cases hY : isR s ⟨x0.extract 0 m0, (k : Int), v1, v3, 0, hms⟩
      · have HY := Lib.hid hY
        have hcmp : ((⟨x0.extract 0 m0, (k : Int), v1, v3, 0, hms⟩ : Res).line.toList == s.toList) = true := beq_iff_eq.2 (by rw [hY.2])
        clear hY
        go_wp2_with fail
        refine (l26One_is (x0.extract 0 m0) k v1 v3 0 hms _ HY.out.1 _).mono ?_
        rintro e w7 ⟨rfl, hb7⟩
        have hq7 : Below W8.heap.size W8 w7 := bth (by repeat (first | exact Below.refl _ _ | refine Below.alloc ?_ (by first | exact Nat.le_refl _ | (simp <;> omega)) _ | refine Below.setCell ?_ (by first | exact Nat.le_refl _ | (simp <;> omega)) _)) hb7
        replace HB := bth HB hq7
        replace hGG := hGG.below hq7 hGG.lt
        replace g0 := (hGG.cell 0).trans (show _ = some (.string (x0.extract 0 m0)) from rfl)
        replace g1 := (hGG.cell 1).trans (show _ = some (.int .i64 k) from rfl)
        replace g2 := (hGG.cell 2).trans (show _ = some (.int .i64 v1) from rfl)
        replace g3 := (hGG.cell 3).trans (show _ = some (.int .i64 v3) from rfl)
        replace g4 := (hGG.cell 4).trans (show _ = some (.int .i64 0) from rfl)
        replace hZ := hZ.below hq7 hZ.lt
        replace z0 := (hZ.cell 0).trans (show _ = some (.string ⟨#[]⟩) from rfl)
        replace z1 := (hZ.cell 1).trans (show _ = some (.int .i64 0) from rfl)
        replace z2 := (hZ.cell 2).trans (show _ = some (.int .i64 0) from rfl)
        replace z3 := (hZ.cell 3).trans (show _ = some (.int .i64 0) from rfl)
        replace z4 := (hZ.cell 4).trans (show _ = some (.int .i64 0) from rfl)
        replace hO := hO.below hq7 hO.lt
        replace o0 := (hO.cell 0).trans (show _ = some (.string ⟨#[]⟩) from rfl)
        replace o1 := (hO.cell 1).trans (show _ = some (.int .i64 0) from rfl)
        replace o2 := (hO.cell 2).trans (show _ = some (.int .i64 0) from rfl)
        replace o3 := (hO.cell 3).trans (show _ = some (.int .i64 0) from rfl)
        replace o4 := (hO.cell 4).trans (show _ = some (.int .i64 0) from rfl)
        go_wp2_with fail
        refine (l26Line_is ⟨x0.extract 0 m0, (k : Int), v1, v3, 0, hms⟩ HY.out.1 _).mono ?_
        rintro e w8 ⟨rfl, hb8⟩
        have hq8 : Below w7.heap.size w7 w8 := bth (by repeat (first | exact Below.refl _ _ | refine Below.alloc ?_ (by first | exact Nat.le_refl _ | (simp <;> omega)) _ | refine Below.setCell ?_ (by first | exact Nat.le_refl _ | (simp <;> omega)) _)) hb8
        replace HB := bth HB hq8
        replace hGG := hGG.below hq8 hGG.lt
        replace g0 := (hGG.cell 0).trans (show _ = some (.string (x0.extract 0 m0)) from rfl)
        replace g1 := (hGG.cell 1).trans (show _ = some (.int .i64 k) from rfl)
        replace g2 := (hGG.cell 2).trans (show _ = some (.int .i64 v1) from rfl)
        replace g3 := (hGG.cell 3).trans (show _ = some (.int .i64 v3) from rfl)
        replace g4 := (hGG.cell 4).trans (show _ = some (.int .i64 0) from rfl)
        replace hZ := hZ.below hq8 hZ.lt
        replace z0 := (hZ.cell 0).trans (show _ = some (.string ⟨#[]⟩) from rfl)
        replace z1 := (hZ.cell 1).trans (show _ = some (.int .i64 0) from rfl)
        replace z2 := (hZ.cell 2).trans (show _ = some (.int .i64 0) from rfl)
        replace z3 := (hZ.cell 3).trans (show _ = some (.int .i64 0) from rfl)
        replace z4 := (hZ.cell 4).trans (show _ = some (.int .i64 0) from rfl)
        replace hO := hO.below hq8 hO.lt
        replace o0 := (hO.cell 0).trans (show _ = some (.string ⟨#[]⟩) from rfl)
        replace o1 := (hO.cell 1).trans (show _ = some (.int .i64 0) from rfl)
        replace o2 := (hO.cell 2).trans (show _ = some (.int .i64 0) from rfl)
        replace o3 := (hO.cell 3).trans (show _ = some (.int .i64 0) from rfl)
        replace o4 := (hO.cell 4).trans (show _ = some (.int .i64 0) from rfl)
        have fhZ0 := hZ.frozen 0
        have fhZ1 := hZ.frozen 1
        have fhZ2 := hZ.frozen 2
        have fhZ3 := hZ.frozen 3
        have fhZ4 := hZ.frozen 4
        have yhGG := hGG.lt
        have yhZ := hZ.lt
        have yhO := hO.lt
        go_wp2
        clear g0 g1 g2 g3 g4 z0 z1 z2 z3 z4 o0 o1 o2 o3 o4
        replace HB : Below w.heap.size w (World.setCell (World.setCell (World.setCell (World.setCell (World.setCell w8 ⟨w.heap.size, 0, none⟩ (.string (x0.extract 0 m0))) ⟨w.heap.size, 1, none⟩ (.int .i64 k)) ⟨w.heap.size, 2, none⟩ (.int .i64 v1)) ⟨w.heap.size, 3, none⟩ (.int .i64 v3)) ⟨w.heap.size, 4, none⟩ (.int .i64 0)) := (((((HB.setCell (by show w.heap.size ≤ w.heap.size; omega) (.string (x0.extract 0 m0)) (p := ⟨w.heap.size, 0, none⟩)).setCell (by show w.heap.size ≤ w.heap.size; omega) (.int .i64 k) (p := ⟨w.heap.size, 1, none⟩)).setCell (by show w.heap.size ≤ w.heap.size; omega) (.int .i64 v1) (p := ⟨w.heap.size, 2, none⟩)).setCell (by show w.heap.size ≤ w.heap.size; omega) (.int .i64 v3) (p := ⟨w.heap.size, 3, none⟩)).setCell (by show w.heap.size ≤ w.heap.size; omega) (.int .i64 0) (p := ⟨w.heap.size, 4, none⟩))
        replace hGG := (((((hGG.far' (p := ⟨w.heap.size, 0, none⟩) (by show _ ≠ w.heap.size; omega) (.string (x0.extract 0 m0))).far' (p := ⟨w.heap.size, 1, none⟩) (by show _ ≠ w.heap.size; omega) (.int .i64 k)).far' (p := ⟨w.heap.size, 2, none⟩) (by show _ ≠ w.heap.size; omega) (.int .i64 v1)).far' (p := ⟨w.heap.size, 3, none⟩) (by show _ ≠ w.heap.size; omega) (.int .i64 v3)).far' (p := ⟨w.heap.size, 4, none⟩) (by show _ ≠ w.heap.size; omega) (.int .i64 0))
        replace hZ : Blk (World.setCell (World.setCell (World.setCell (World.setCell (World.setCell w8 ⟨w.heap.size, 0, none⟩ (.string (x0.extract 0 m0))) ⟨w.heap.size, 1, none⟩ (.int .i64 k)) ⟨w.heap.size, 2, none⟩ (.int .i64 v1)) ⟨w.heap.size, 3, none⟩ (.int .i64 v3)) ⟨w.heap.size, 4, none⟩ (.int .i64 0)) (w.heap.size) 27 #[.string (x0.extract 0 m0), .int .i64 k, .int .i64 v1, .int .i64 v3, .int .i64 0] := (((((hZ.set_ 0 (.string (x0.extract 0 m0))).set_ 1 (.int .i64 k)).set_ 2 (.int .i64 v1)).set_ 3 (.int .i64 v3)).set_ 4 (.int .i64 0))
        replace hO := (((((hO.far' (p := ⟨w.heap.size, 0, none⟩) (by show _ ≠ w.heap.size; omega) (.string (x0.extract 0 m0))).far' (p := ⟨w.heap.size, 1, none⟩) (by show _ ≠ w.heap.size; omega) (.int .i64 k)).far' (p := ⟨w.heap.size, 2, none⟩) (by show _ ≠ w.heap.size; omega) (.int .i64 v1)).far' (p := ⟨w.heap.size, 3, none⟩) (by show _ ≠ w.heap.size; omega) (.int .i64 v3)).far' (p := ⟨w.heap.size, 4, none⟩) (by show _ ≠ w.heap.size; omega) (.int .i64 0))
        have szW9 : ((World.setCell (World.setCell (World.setCell (World.setCell (World.setCell w8 ⟨w.heap.size, 0, none⟩ (.string (x0.extract 0 m0))) ⟨w.heap.size, 1, none⟩ (.int .i64 k)) ⟨w.heap.size, 2, none⟩ (.int .i64 v1)) ⟨w.heap.size, 3, none⟩ (.int .i64 v3)) ⟨w.heap.size, 4, none⟩ (.int .i64 0))).heap.size = w8.heap.size := by simp [World.setCell]
        generalize World.setCell (World.setCell (World.setCell (World.setCell (World.setCell w8 ⟨w.heap.size, 0, none⟩ (.string (x0.extract 0 m0))) ⟨w.heap.size, 1, none⟩ (.int .i64 k)) ⟨w.heap.size, 2, none⟩ (.int .i64 v1)) ⟨w.heap.size, 3, none⟩ (.int .i64 v3)) ⟨w.heap.size, 4, none⟩ (.int .i64 0) = W9 at *
        have g0 := (hGG.cell 0).trans (show _ = some (.string (x0.extract 0 m0)) from rfl)
        have g1 := (hGG.cell 1).trans (show _ = some (.int .i64 k) from rfl)
        have g2 := (hGG.cell 2).trans (show _ = some (.int .i64 v1) from rfl)
        have g3 := (hGG.cell 3).trans (show _ = some (.int .i64 v3) from rfl)
        have g4 := (hGG.cell 4).trans (show _ = some (.int .i64 0) from rfl)
        have z0 := (hZ.cell 0).trans (show _ = some (.string (x0.extract 0 m0)) from rfl)
        have z1 := (hZ.cell 1).trans (show _ = some (.int .i64 k) from rfl)
        have z2 := (hZ.cell 2).trans (show _ = some (.int .i64 v1) from rfl)
        have z3 := (hZ.cell 3).trans (show _ = some (.int .i64 v3) from rfl)
        have z4 := (hZ.cell 4).trans (show _ = some (.int .i64 0) from rfl)
        have o0 := (hO.cell 0).trans (show _ = some (.string ⟨#[]⟩) from rfl)
        have o1 := (hO.cell 1).trans (show _ = some (.int .i64 0) from rfl)
        have o2 := (hO.cell 2).trans (show _ = some (.int .i64 0) from rfl)
        have o3 := (hO.cell 3).trans (show _ = some (.int .i64 0) from rfl)
        have o4 := (hO.cell 4).trans (show _ = some (.int .i64 0) from rfl)
        refine bodyPost_ret (v := .tuple #[.agg #[.string (x0.extract 0 m0), .int .i64 k, .int .i64 v1, .int .i64 v3, .int .i64 0], .bool true]) (by simp [results, Tryz.results50, go_sem, z0, z1, z2, z3, z4]) rfl ?_
        exact ⟨by rw [poO_yes HY.out]; rfl, HB⟩
      have hnext : ∀ r, isR s r → ((k + 1 : Nat) : Int) ≤ r.need := fun r h => by
        have h1 := HMIN.out r h
        by_cases hq : r.need = (k : Int)
        · exfalso
          apply hY
          obtain ⟨e1, e2, e3, e4⟩ := HF.out r h
          obtain ⟨rm, rn, ry, ro, ra, rs⟩ := r
          simp only at e1 e2 e3 e4 hq
          subst e1 e2 e3 e4 hq
          exact h
        · omega
      have HNX := Lib.hid hnext; clear hnext
      cases hv : resB ⟨x0.extract 0 m0, (k : Int), v1, v3, 0, hms⟩
      · have HV := Lib.hid hv; clear hv hY
        go_wp2_with fail
        refine (l26One_is (x0.extract 0 m0) k v1 v3 0 hms _ HV.out _).mono ?_
        rintro e w7 ⟨rfl, hb7⟩
        have hq7 : Below W8.heap.size W8 w7 := bth (by repeat (first | exact Below.refl _ _ | refine Below.alloc ?_ (by first | exact Nat.le_refl _ | (simp <;> omega)) _ | refine Below.setCell ?_ (by first | exact Nat.le_refl _ | (simp <;> omega)) _)) hb7
        replace HB := bth HB hq7
        replace hGG := hGG.below hq7 hGG.lt
        replace g0 := (hGG.cell 0).trans (show _ = some (.string (x0.extract 0 m0)) from rfl)
        replace g1 := (hGG.cell 1).trans (show _ = some (.int .i64 k) from rfl)
        replace g2 := (hGG.cell 2).trans (show _ = some (.int .i64 v1) from rfl)
        replace g3 := (hGG.cell 3).trans (show _ = some (.int .i64 v3) from rfl)
        replace g4 := (hGG.cell 4).trans (show _ = some (.int .i64 0) from rfl)
        replace hZ := hZ.below hq7 hZ.lt
        replace z0 := (hZ.cell 0).trans (show _ = some (.string ⟨#[]⟩) from rfl)
        replace z1 := (hZ.cell 1).trans (show _ = some (.int .i64 0) from rfl)
        replace z2 := (hZ.cell 2).trans (show _ = some (.int .i64 0) from rfl)
        replace z3 := (hZ.cell 3).trans (show _ = some (.int .i64 0) from rfl)
        replace z4 := (hZ.cell 4).trans (show _ = some (.int .i64 0) from rfl)
        replace hO := hO.below hq7 hO.lt
        replace o0 := (hO.cell 0).trans (show _ = some (.string ⟨#[]⟩) from rfl)
        replace o1 := (hO.cell 1).trans (show _ = some (.int .i64 0) from rfl)
        replace o2 := (hO.cell 2).trans (show _ = some (.int .i64 0) from rfl)
        replace o3 := (hO.cell 3).trans (show _ = some (.int .i64 0) from rfl)
        replace o4 := (hO.cell 4).trans (show _ = some (.int .i64 0) from rfl)
        go_wp2
        go_roundw
        case rel => exact ⟨k + 1, (k : Int), by omega, by omega, rfl, by go_num, HB, hGG, hZ, hO, HNX.out⟩
        case measure => simp [intOf]; omega
      · have hcmp : ((⟨x0.extract 0 m0, (k : Int), v1, v3, 0, hms⟩ : Res).line.toList == s.toList) = false := bytes_differ (fun e => hY ⟨hv, e⟩)
        have HV := Lib.hid hv; clear hv hY
        go_wp2_with fail
        refine (l26One_is (x0.extract 0 m0) k v1 v3 0 hms _ HV.out _).mono ?_
        rintro e w7 ⟨rfl, hb7⟩
        have hq7 : Below W8.heap.size W8 w7 := bth (by repeat (first | exact Below.refl _ _ | refine Below.alloc ?_ (by first | exact Nat.le_refl _ | (simp <;> omega)) _ | refine Below.setCell ?_ (by first | exact Nat.le_refl _ | (simp <;> omega)) _)) hb7
        replace HB := bth HB hq7
        replace hGG := hGG.below hq7 hGG.lt
        replace g0 := (hGG.cell 0).trans (show _ = some (.string (x0.extract 0 m0)) from rfl)
        replace g1 := (hGG.cell 1).trans (show _ = some (.int .i64 k) from rfl)
        replace g2 := (hGG.cell 2).trans (show _ = some (.int .i64 v1) from rfl)
        replace g3 := (hGG.cell 3).trans (show _ = some (.int .i64 v3) from rfl)
        replace g4 := (hGG.cell 4).trans (show _ = some (.int .i64 0) from rfl)
        replace hZ := hZ.below hq7 hZ.lt
        replace z0 := (hZ.cell 0).trans (show _ = some (.string ⟨#[]⟩) from rfl)
        replace z1 := (hZ.cell 1).trans (show _ = some (.int .i64 0) from rfl)
        replace z2 := (hZ.cell 2).trans (show _ = some (.int .i64 0) from rfl)
        replace z3 := (hZ.cell 3).trans (show _ = some (.int .i64 0) from rfl)
        replace z4 := (hZ.cell 4).trans (show _ = some (.int .i64 0) from rfl)
        replace hO := hO.below hq7 hO.lt
        replace o0 := (hO.cell 0).trans (show _ = some (.string ⟨#[]⟩) from rfl)
        replace o1 := (hO.cell 1).trans (show _ = some (.int .i64 0) from rfl)
        replace o2 := (hO.cell 2).trans (show _ = some (.int .i64 0) from rfl)
        replace o3 := (hO.cell 3).trans (show _ = some (.int .i64 0) from rfl)
        replace o4 := (hO.cell 4).trans (show _ = some (.int .i64 0) from rfl)
        go_wp2_with fail
        refine (l26Line_is ⟨x0.extract 0 m0, (k : Int), v1, v3, 0, hms⟩ HV.out _).mono ?_
        rintro e w8 ⟨rfl, hb8⟩
        have hq8 : Below w7.heap.size w7 w8 := bth (by repeat (first | exact Below.refl _ _ | refine Below.alloc ?_ (by first | exact Nat.le_refl _ | (simp <;> omega)) _ | refine Below.setCell ?_ (by first | exact Nat.le_refl _ | (simp <;> omega)) _)) hb8
        replace HB := bth HB hq8
        replace hGG := hGG.below hq8 hGG.lt
        replace g0 := (hGG.cell 0).trans (show _ = some (.string (x0.extract 0 m0)) from rfl)
        replace g1 := (hGG.cell 1).trans (show _ = some (.int .i64 k) from rfl)
        replace g2 := (hGG.cell 2).trans (show _ = some (.int .i64 v1) from rfl)
        replace g3 := (hGG.cell 3).trans (show _ = some (.int .i64 v3) from rfl)
        replace g4 := (hGG.cell 4).trans (show _ = some (.int .i64 0) from rfl)
        replace hZ := hZ.below hq8 hZ.lt
        replace z0 := (hZ.cell 0).trans (show _ = some (.string ⟨#[]⟩) from rfl)
        replace z1 := (hZ.cell 1).trans (show _ = some (.int .i64 0) from rfl)
        replace z2 := (hZ.cell 2).trans (show _ = some (.int .i64 0) from rfl)
        replace z3 := (hZ.cell 3).trans (show _ = some (.int .i64 0) from rfl)
        replace z4 := (hZ.cell 4).trans (show _ = some (.int .i64 0) from rfl)
        replace hO := hO.below hq8 hO.lt
        replace o0 := (hO.cell 0).trans (show _ = some (.string ⟨#[]⟩) from rfl)
        replace o1 := (hO.cell 1).trans (show _ = some (.int .i64 0) from rfl)
        replace o2 := (hO.cell 2).trans (show _ = some (.int .i64 0) from rfl)
        replace o3 := (hO.cell 3).trans (show _ = some (.int .i64 0) from rfl)
        replace o4 := (hO.cell 4).trans (show _ = some (.int .i64 0) from rfl)
        go_wp2
        go_roundw
        case rel => exact ⟨k + 1, (k : Int), by omega, by omega, rfl, by go_num, HB, hGG, hZ, hO, HNX.out⟩
        case measure => simp [intOf]; omega
  have HN : Hid ((spB 32 p0).length = 7) := Lib.hid (by omega)
  obtain ⟨x5, h5⟩ : ∃ x, (spB 32 p0)[5]? = some x := ⟨_, List.getElem?_eq_getElem (by omega)⟩
  have y5 : x5.size ≤ maxLen := by have := spB_size h5; unfold maxLen; omega
  obtain ⟨v5, b5, r5⟩ := rdOut_form x5
  have i5 : rdI x5 = v5 := by have := rdOut_I x5; rw [r5] at this; simp at this; exact this.1.symm
  have L5 : Hid (5 < (spB 32 p0).length) := Lib.hid (by omega)
  have HX5 := Lib.hid h5; have HR5 := Lib.hid r5; have I5 := Lib.hid i5
  clear h5 r5 i5 h47 hn4
  by_cases h2 : 2 ≤ x0.size
  case neg =>
    have HNO : Hid (¬ ∃ r, isR s r) := Lib.hid (fun ⟨r, h⟩ => h2 (HC.out r h).1)
    go_enter Tryz.func50, Tryz.ntmps50
    go_upto_region 2 with fail
    have hq1 : Below w.heap.size w (World.alloc (World.alloc w (.cells #[.string ⟨#[]⟩, .int .i64 0, .int .i64 0, .int .i64 0, .int .i64 0] 27)) (.cells #[.string ⟨#[]⟩, .int .i64 0, .int .i64 0, .int .i64 0, .int .i64 0] 27)) := bl2 w _ _
    have hZ : Blk (World.alloc (World.alloc w (.cells #[.string ⟨#[]⟩, .int .i64 0, .int .i64 0, .int .i64 0, .int .i64 0] 27)) (.cells #[.string ⟨#[]⟩, .int .i64 0, .int .i64 0, .int .i64 0, .int .i64 0] 27)) (w.heap.size) 27 #[.string ⟨#[]⟩, .int .i64 0, .int .i64 0, .int .i64 0, .int .i64 0] := by repeat (first | exact Blk.new _ _ _ | exact Blk.new2 _ _ _ _ | exact Blk.new3 _ _ _ _ _ | exact Blk.new4 _ _ _ _ _ _ | refine Blk.alloc ?_ _)
    have hO : Blk (World.alloc (World.alloc w (.cells #[.string ⟨#[]⟩, .int .i64 0, .int .i64 0, .int .i64 0, .int .i64 0] 27)) (.cells #[.string ⟨#[]⟩, .int .i64 0, .int .i64 0, .int .i64 0, .int .i64 0] 27)) (w.heap.size + 1) 27 #[.string ⟨#[]⟩, .int .i64 0, .int .i64 0, .int .i64 0, .int .i64 0] := by repeat (first | exact Blk.new _ _ _ | exact Blk.new2 _ _ _ _ | exact Blk.new3 _ _ _ _ _ | exact Blk.new4 _ _ _ _ _ _ | refine Blk.alloc ?_ _)
    generalize World.alloc (World.alloc w (.cells #[.string ⟨#[]⟩, .int .i64 0, .int .i64 0, .int .i64 0, .int .i64 0] 27)) (.cells #[.string ⟨#[]⟩, .int .i64 0, .int .i64 0, .int .i64 0, .int .i64 0] 27) = wX at *
    have HB := hq1
    have z0 := (hZ.cell 0).trans (show _ = some (.string ⟨#[]⟩) from rfl)
    have z1 := (hZ.cell 1).trans (show _ = some (.int .i64 0) from rfl)
    have z2 := (hZ.cell 2).trans (show _ = some (.int .i64 0) from rfl)
    have z3 := (hZ.cell 3).trans (show _ = some (.int .i64 0) from rfl)
    have z4 := (hZ.cell 4).trans (show _ = some (.int .i64 0) from rfl)
    have o0 := (hO.cell 0).trans (show _ = some (.string ⟨#[]⟩) from rfl)
    have o1 := (hO.cell 1).trans (show _ = some (.int .i64 0) from rfl)
    have o2 := (hO.cell 2).trans (show _ = some (.int .i64 0) from rfl)
    have o3 := (hO.cell 3).trans (show _ = some (.int .i64 0) from rfl)
    have o4 := (hO.cell 4).trans (show _ = some (.int .i64 0) from rfl)
    have hz0 := hZ.lt
    have ho0 := hO.lt
    go_wp2_with fail
    refine (l1SplitF_is s 44 hs _).mono ?_
    rintro e w2 ⟨A3, c3, rfl, O3, hb2⟩
    have hq2 : Below wX.heap.size wX w2 := bth (by repeat (first | exact Below.refl _ _ | refine Below.alloc ?_ (by first | exact Nat.le_refl _ | (simp <;> omega)) _ | refine Below.setCell ?_ (by first | exact Nat.le_refl _ | (simp <;> omega)) _)) hb2
    replace HB := bth HB hq2
    replace hZ := hZ.below hq2 hZ.lt
    replace z0 := (hZ.cell 0).trans (show _ = some (.string ⟨#[]⟩) from rfl)
    replace z1 := (hZ.cell 1).trans (show _ = some (.int .i64 0) from rfl)
    replace z2 := (hZ.cell 2).trans (show _ = some (.int .i64 0) from rfl)
    replace z3 := (hZ.cell 3).trans (show _ = some (.int .i64 0) from rfl)
    replace z4 := (hZ.cell 4).trans (show _ = some (.int .i64 0) from rfl)
    replace hO := hO.below hq2 hO.lt
    replace o0 := (hO.cell 0).trans (show _ = some (.string ⟨#[]⟩) from rfl)
    replace o1 := (hO.cell 1).trans (show _ = some (.int .i64 0) from rfl)
    replace o2 := (hO.cell 2).trans (show _ = some (.int .i64 0) from rfl)
    replace o3 := (hO.cell 3).trans (show _ = some (.int .i64 0) from rfl)
    replace o4 := (hO.cell 4).trans (show _ = some (.int .i64 0) from rfl)
    have Q3 := O3.rds (hf := bC_len)
    clear O3
    have llp := LP.out
    obtain ⟨bp, op, yp, rfl, hbl, hy, hcy⟩ := Q3.at_ (Below.refl _ _) (k := 0) LP.out
    obtain rfl : p0 = yp := Option.some.inj (HXP.out.symm.trans hy)
    have qp := hcy 0 _ rfl (Kin.self _)
    simp only [Nat.mul_one, Nat.add_zero, Kin.self, Nat.zero_mul] at qp
    clear hy hcy hbl Q3
    go_wp2_with fail
    refine (l1SplitF_is p0 32 hps2 _).mono ?_
    rintro e w3 ⟨A4, c4, rfl, O4, hb3⟩
    have hq3 : Below w2.heap.size w2 w3 := bth (by repeat (first | exact Below.refl _ _ | refine Below.alloc ?_ (by first | exact Nat.le_refl _ | (simp <;> omega)) _ | refine Below.setCell ?_ (by first | exact Nat.le_refl _ | (simp <;> omega)) _)) hb3
    replace HB := bth HB hq3
    replace hZ := hZ.below hq3 hZ.lt
    replace z0 := (hZ.cell 0).trans (show _ = some (.string ⟨#[]⟩) from rfl)
    replace z1 := (hZ.cell 1).trans (show _ = some (.int .i64 0) from rfl)
    replace z2 := (hZ.cell 2).trans (show _ = some (.int .i64 0) from rfl)
    replace z3 := (hZ.cell 3).trans (show _ = some (.int .i64 0) from rfl)
    replace z4 := (hZ.cell 4).trans (show _ = some (.int .i64 0) from rfl)
    replace hO := hO.below hq3 hO.lt
    replace o0 := (hO.cell 0).trans (show _ = some (.string ⟨#[]⟩) from rfl)
    replace o1 := (hO.cell 1).trans (show _ = some (.int .i64 0) from rfl)
    replace o2 := (hO.cell 2).trans (show _ = some (.int .i64 0) from rfl)
    replace o3 := (hO.cell 3).trans (show _ = some (.int .i64 0) from rfl)
    replace o4 := (hO.cell 4).trans (show _ = some (.int .i64 0) from rfl)
    clear qp
    have Q4 := O4.rds (hf := bC_len)
    have ll0 := L0.out
    obtain ⟨bq, oq, y0, rfl, hbq, hy, hcy⟩ := Q4.at_ (Below.refl _ _) (k := 0) L0.out
    obtain rfl : x0 = y0 := Option.some.inj (HX0.out.symm.trans hy)
    have q0 := hcy 0 _ rfl (Kin.self _)
    simp only [Nat.mul_one, Nat.add_zero, Kin.self, Nat.zero_mul] at q0
    clear hy hcy
    have g3 : (((spB 44 s).length : Int) == 3) = true := by rw [H3.out]; rfl
    have d3 : ((spB 44 s).length : Int) = 3 := by rw [H3.out]; rfl
    have g4 : (((spB 32 p0).length : Int) == 4) = false := by rw [HN.out]; rfl
    have d4 : ¬ ((spB 32 p0).length : Int) = 4 := by have := HN.out; omega
    have d7 : ((spB 32 p0).length : Int) = 7 := by have := HN.out; omega
    have g7 : (((spB 32 p0).length : Int) == 7) = true := by rw [HN.out]; rfl
    have fhZ0 := hZ.frozen 0
    have fhZ1 := hZ.frozen 1
    have fhZ2 := hZ.frozen 2
    have fhZ3 := hZ.frozen 3
    have fhZ4 := hZ.frozen 4
    have yhZ := hZ.lt
    have yhO := hO.lt
    go_wp2
    clear z0 z1 z2 z3 z4 o0 o1 o2 o3 o4
    replace HB : Below w.heap.size w (World.setCell (World.setCell (World.setCell (World.setCell (World.setCell w3 ⟨w.heap.size, 0, none⟩ (.string ⟨#[]⟩)) ⟨w.heap.size, 1, none⟩ (.int .i64 0)) ⟨w.heap.size, 2, none⟩ (.int .i64 0)) ⟨w.heap.size, 3, none⟩ (.int .i64 0)) ⟨w.heap.size, 4, none⟩ (.int .i64 0)) := (((((HB.setCell (by show w.heap.size ≤ w.heap.size; omega) (.string ⟨#[]⟩) (p := ⟨w.heap.size, 0, none⟩)).setCell (by show w.heap.size ≤ w.heap.size; omega) (.int .i64 0) (p := ⟨w.heap.size, 1, none⟩)).setCell (by show w.heap.size ≤ w.heap.size; omega) (.int .i64 0) (p := ⟨w.heap.size, 2, none⟩)).setCell (by show w.heap.size ≤ w.heap.size; omega) (.int .i64 0) (p := ⟨w.heap.size, 3, none⟩)).setCell (by show w.heap.size ≤ w.heap.size; omega) (.int .i64 0) (p := ⟨w.heap.size, 4, none⟩))
    replace hZ : Blk (World.setCell (World.setCell (World.setCell (World.setCell (World.setCell w3 ⟨w.heap.size, 0, none⟩ (.string ⟨#[]⟩)) ⟨w.heap.size, 1, none⟩ (.int .i64 0)) ⟨w.heap.size, 2, none⟩ (.int .i64 0)) ⟨w.heap.size, 3, none⟩ (.int .i64 0)) ⟨w.heap.size, 4, none⟩ (.int .i64 0)) (w.heap.size) 27 #[.string ⟨#[]⟩, .int .i64 0, .int .i64 0, .int .i64 0, .int .i64 0] := (((((hZ.set_ 0 (.string ⟨#[]⟩)).set_ 1 (.int .i64 0)).set_ 2 (.int .i64 0)).set_ 3 (.int .i64 0)).set_ 4 (.int .i64 0))
    replace hO := (((((hO.far' (p := ⟨w.heap.size, 0, none⟩) (by show _ ≠ w.heap.size; omega) (.string ⟨#[]⟩)).far' (p := ⟨w.heap.size, 1, none⟩) (by show _ ≠ w.heap.size; omega) (.int .i64 0)).far' (p := ⟨w.heap.size, 2, none⟩) (by show _ ≠ w.heap.size; omega) (.int .i64 0)).far' (p := ⟨w.heap.size, 3, none⟩) (by show _ ≠ w.heap.size; omega) (.int .i64 0)).far' (p := ⟨w.heap.size, 4, none⟩) (by show _ ≠ w.heap.size; omega) (.int .i64 0))
    have szW9 : ((World.setCell (World.setCell (World.setCell (World.setCell (World.setCell w3 ⟨w.heap.size, 0, none⟩ (.string ⟨#[]⟩)) ⟨w.heap.size, 1, none⟩ (.int .i64 0)) ⟨w.heap.size, 2, none⟩ (.int .i64 0)) ⟨w.heap.size, 3, none⟩ (.int .i64 0)) ⟨w.heap.size, 4, none⟩ (.int .i64 0))).heap.size = w3.heap.size := by simp [World.setCell]
    generalize World.setCell (World.setCell (World.setCell (World.setCell (World.setCell w3 ⟨w.heap.size, 0, none⟩ (.string ⟨#[]⟩)) ⟨w.heap.size, 1, none⟩ (.int .i64 0)) ⟨w.heap.size, 2, none⟩ (.int .i64 0)) ⟨w.heap.size, 3, none⟩ (.int .i64 0)) ⟨w.heap.size, 4, none⟩ (.int .i64 0) = W9 at *
    have z0 := (hZ.cell 0).trans (show _ = some (.string ⟨#[]⟩) from rfl)
    have z1 := (hZ.cell 1).trans (show _ = some (.int .i64 0) from rfl)
    have z2 := (hZ.cell 2).trans (show _ = some (.int .i64 0) from rfl)
    have z3 := (hZ.cell 3).trans (show _ = some (.int .i64 0) from rfl)
    have z4 := (hZ.cell 4).trans (show _ = some (.int .i64 0) from rfl)
    have o0 := (hO.cell 0).trans (show _ = some (.string ⟨#[]⟩) from rfl)
    have o1 := (hO.cell 1).trans (show _ = some (.int .i64 0) from rfl)
    have o2 := (hO.cell 2).trans (show _ = some (.int .i64 0) from rfl)
    have o3 := (hO.cell 3).trans (show _ = some (.int .i64 0) from rfl)
    have o4 := (hO.cell 4).trans (show _ = some (.int .i64 0) from rfl)
    refine bodyPost_ret (v := .tuple #[.agg #[.string ⟨#[]⟩, .int .i64 0, .int .i64 0, .int .i64 0, .int .i64 0], .bool false]) (by simp [results, Tryz.results50, go_sem, z0, z1, z2, z3, z4]) rfl ?_
    exact ⟨by rw [poO_no HNO.out]; rfl, HB⟩
  obtain ⟨m0, hm0⟩ : ∃ m, x0.size = m + 1 := ⟨x0.size - 1, by omega⟩
  have HF : Hid (∀ r, isR s r → x0.extract 0 m0 = r.motion ∧ v1 = r.yes ∧ v3 = r.no ∧ v5 = r.abst) := Lib.hid (fun r h => by
    obtain ⟨_, e2, e3, e4, e5⟩ := HC.out r h
    refine ⟨e2 m0 hm0, I1.out.symm.trans e3, I3.out.symm.trans e4, ?_⟩
    rcases e5 with ⟨e5, e6⟩ | ⟨e5, e6⟩
    · have := HN.out; omega
    · exact I5.out.symm.trans (e6 _ HX5.out))
  have hms : (x0.extract 0 m0).size ≤ maxLen := by rw [ByteArray.size_extract]; unfold maxLen; omega
  have HM0 := Lib.hid hm0; clear hm0
  go_enter Tryz.func50, Tryz.ntmps50
  go_upto_region 2 with fail
  have hq1 : Below w.heap.size w (World.alloc (World.alloc w (.cells #[.string ⟨#[]⟩, .int .i64 0, .int .i64 0, .int .i64 0, .int .i64 0] 27)) (.cells #[.string ⟨#[]⟩, .int .i64 0, .int .i64 0, .int .i64 0, .int .i64 0] 27)) := bl2 w _ _
  have hZ : Blk (World.alloc (World.alloc w (.cells #[.string ⟨#[]⟩, .int .i64 0, .int .i64 0, .int .i64 0, .int .i64 0] 27)) (.cells #[.string ⟨#[]⟩, .int .i64 0, .int .i64 0, .int .i64 0, .int .i64 0] 27)) (w.heap.size) 27 #[.string ⟨#[]⟩, .int .i64 0, .int .i64 0, .int .i64 0, .int .i64 0] := by repeat (first | exact Blk.new _ _ _ | exact Blk.new2 _ _ _ _ | exact Blk.new3 _ _ _ _ _ | exact Blk.new4 _ _ _ _ _ _ | refine Blk.alloc ?_ _)
  have hO : Blk (World.alloc (World.alloc w (.cells #[.string ⟨#[]⟩, .int .i64 0, .int .i64 0, .int .i64 0, .int .i64 0] 27)) (.cells #[.string ⟨#[]⟩, .int .i64 0, .int .i64 0, .int .i64 0, .int .i64 0] 27)) (w.heap.size + 1) 27 #[.string ⟨#[]⟩, .int .i64 0, .int .i64 0, .int .i64 0, .int .i64 0] := by repeat (first | exact Blk.new _ _ _ | exact Blk.new2 _ _ _ _ | exact Blk.new3 _ _ _ _ _ | exact Blk.new4 _ _ _ _ _ _ | refine Blk.alloc ?_ _)
  generalize World.alloc (World.alloc w (.cells #[.string ⟨#[]⟩, .int .i64 0, .int .i64 0, .int .i64 0, .int .i64 0] 27)) (.cells #[.string ⟨#[]⟩, .int .i64 0, .int .i64 0, .int .i64 0, .int .i64 0] 27) = wX at *
  have HB := hq1
  have z0 := (hZ.cell 0).trans (show _ = some (.string ⟨#[]⟩) from rfl)
  have z1 := (hZ.cell 1).trans (show _ = some (.int .i64 0) from rfl)
  have z2 := (hZ.cell 2).trans (show _ = some (.int .i64 0) from rfl)
  have z3 := (hZ.cell 3).trans (show _ = some (.int .i64 0) from rfl)
  have z4 := (hZ.cell 4).trans (show _ = some (.int .i64 0) from rfl)
  have o0 := (hO.cell 0).trans (show _ = some (.string ⟨#[]⟩) from rfl)
  have o1 := (hO.cell 1).trans (show _ = some (.int .i64 0) from rfl)
  have o2 := (hO.cell 2).trans (show _ = some (.int .i64 0) from rfl)
  have o3 := (hO.cell 3).trans (show _ = some (.int .i64 0) from rfl)
  have o4 := (hO.cell 4).trans (show _ = some (.int .i64 0) from rfl)
  have hz0 := hZ.lt
  have ho0 := hO.lt
  go_wp2_with fail
  refine (l1SplitF_is s 44 hs _).mono ?_
  rintro e w2 ⟨A3, c3, rfl, O3, hb2⟩
  have hq2 : Below wX.heap.size wX w2 := bth (by repeat (first | exact Below.refl _ _ | refine Below.alloc ?_ (by first | exact Nat.le_refl _ | (simp <;> omega)) _ | refine Below.setCell ?_ (by first | exact Nat.le_refl _ | (simp <;> omega)) _)) hb2
  replace HB := bth HB hq2
  replace hZ := hZ.below hq2 hZ.lt
  replace z0 := (hZ.cell 0).trans (show _ = some (.string ⟨#[]⟩) from rfl)
  replace z1 := (hZ.cell 1).trans (show _ = some (.int .i64 0) from rfl)
  replace z2 := (hZ.cell 2).trans (show _ = some (.int .i64 0) from rfl)
  replace z3 := (hZ.cell 3).trans (show _ = some (.int .i64 0) from rfl)
  replace z4 := (hZ.cell 4).trans (show _ = some (.int .i64 0) from rfl)
  replace hO := hO.below hq2 hO.lt
  replace o0 := (hO.cell 0).trans (show _ = some (.string ⟨#[]⟩) from rfl)
  replace o1 := (hO.cell 1).trans (show _ = some (.int .i64 0) from rfl)
  replace o2 := (hO.cell 2).trans (show _ = some (.int .i64 0) from rfl)
  replace o3 := (hO.cell 3).trans (show _ = some (.int .i64 0) from rfl)
  replace o4 := (hO.cell 4).trans (show _ = some (.int .i64 0) from rfl)
  have Q3 := O3.rds (hf := bC_len)
  clear O3
  have llp := LP.out
  obtain ⟨bp, op, yp, rfl, hbl, hy, hcy⟩ := Q3.at_ (Below.refl _ _) (k := 0) LP.out
  obtain rfl : p0 = yp := Option.some.inj (HXP.out.symm.trans hy)
  have qp := hcy 0 _ rfl (Kin.self _)
  simp only [Nat.mul_one, Nat.add_zero, Kin.self, Nat.zero_mul] at qp
  clear hy hcy hbl Q3
  go_wp2_with fail
  refine (l1SplitF_is p0 32 hps2 _).mono ?_
  rintro e w3 ⟨A4, c4, rfl, O4, hb3⟩
  have hq3 : Below w2.heap.size w2 w3 := bth (by repeat (first | exact Below.refl _ _ | refine Below.alloc ?_ (by first | exact Nat.le_refl _ | (simp <;> omega)) _ | refine Below.setCell ?_ (by first | exact Nat.le_refl _ | (simp <;> omega)) _)) hb3
  replace HB := bth HB hq3
  replace hZ := hZ.below hq3 hZ.lt
  replace z0 := (hZ.cell 0).trans (show _ = some (.string ⟨#[]⟩) from rfl)
  replace z1 := (hZ.cell 1).trans (show _ = some (.int .i64 0) from rfl)
  replace z2 := (hZ.cell 2).trans (show _ = some (.int .i64 0) from rfl)
  replace z3 := (hZ.cell 3).trans (show _ = some (.int .i64 0) from rfl)
  replace z4 := (hZ.cell 4).trans (show _ = some (.int .i64 0) from rfl)
  replace hO := hO.below hq3 hO.lt
  replace o0 := (hO.cell 0).trans (show _ = some (.string ⟨#[]⟩) from rfl)
  replace o1 := (hO.cell 1).trans (show _ = some (.int .i64 0) from rfl)
  replace o2 := (hO.cell 2).trans (show _ = some (.int .i64 0) from rfl)
  replace o3 := (hO.cell 3).trans (show _ = some (.int .i64 0) from rfl)
  replace o4 := (hO.cell 4).trans (show _ = some (.int .i64 0) from rfl)
  clear qp
  have Q4 := O4.rds (hf := bC_len)
  have ll0 := L0.out
  obtain ⟨bq, oq, y0, rfl, hbq, hy, hcy⟩ := Q4.at_ (Below.refl _ _) (k := 0) L0.out
  obtain rfl : x0 = y0 := Option.some.inj (HX0.out.symm.trans hy)
  have q0 := hcy 0 _ rfl (Kin.self _)
  simp only [Nat.mul_one, Nat.add_zero, Kin.self, Nat.zero_mul] at q0
  clear hy hcy
  have g3 : (((spB 44 s).length : Int) == 3) = true := by rw [H3.out]; rfl
  have d3 : ((spB 44 s).length : Int) = 3 := by rw [H3.out]; rfl
  have g4 : (((spB 32 p0).length : Int) == 4) = false := by rw [HN.out]; rfl
  have d4 : ¬ ((spB 32 p0).length : Int) = 4 := by have := HN.out; omega
  have d7 : ((spB 32 p0).length : Int) = 7 := by have := HN.out; omega
  have g7 : (((spB 32 p0).length : Int) == 7) = true := by rw [HN.out]; rfl
  go_upto_region 7 with fail
  clear g3 g4 g7 d7 Q4 d3 d4
  have hzw := hZ.lt
  have how := hO.lt
  have hO4lt := Lib.hid (fun k hk => (O4.lt k hk).2)
  clear z0 z1 z2 z3 z4 o0 o1 o2 o3 o4
  obtain ⟨CC, hCC⟩ : ∃ X : World → Prop, ∀ V, X V ↔ (V.cell? ⟨bq, oq, none⟩ = some (.string x0) ∧ bq < V.heap.size) := ⟨_, fun _ => Iff.rfl⟩
  have HCC := Lib.hid hCC; clear hCC
  have hCin : CC w3 := (HCC.out _).2 ⟨q0, hbq⟩
  haveI : Nonempty (Hld CC) := ⟨⟨w3, hCin⟩⟩
  replace q0 := fun K : Hld CC => ((HCC.out _).1 K.holds).1
  refine wp_region_mk (pqS x0) CC [([3, 4, 5], 6), ([], 10)] [0, 1, 2, 7, 8, 9] [([], 11)] [] (by kernel_rfl) (by kernel_rfl) ((HCC.out _).2 ((HCC.out w3).1 hCin)) (fun W W' h k => (HCC.out _).2 ⟨(k.cell (p := ⟨bq, oq, none⟩) ((HCC.out _).1 h).2).trans ((HCC.out _).1 h).1, Nat.lt_of_lt_of_le ((HCC.out _).1 h).2 k.size⟩) ?_
  intro σ
  refine wpMk1_cons (some 49) rfl (.int .i64 (x0.size : Int)) rfl fun K1 hK1 => ?_
  change wpQuiet _ _ _ _ (_ :: _ :: _ :: []) _
  repeat (go_big_quiet_step (fail))
  refine wpQuiet_nil ?_
  refine ⟨fun k hpar => ?_, hK1 _ ?_⟩
  · change wpList _ _ _ (_ :: []) _ _
    go_wp2
    exact Nrm_mk ⟨0, rfl, Below.refl _ _, trivial⟩
  simp only [Act.put]
  go_simp
  refine wpMk1_cons (some 8) rfl (.pointer (some ⟨σ 10, 0, none⟩)) rfl fun K1 hK1 => ?_
  change wpQuiet _ _ _ _ ([]) _
  refine wpQuiet_nil ?_
  refine ⟨fun k hpar => ?_, hK1 _ ?_⟩
  · change wpList _ _ _ (_ :: []) _ _
    go_wp2
    exact Nrm_mk ⟨k.world.heap.size, rfl, bl1 _ _, rfl, Blk.new _ _ _⟩
  simp only [Act.put]
  go_simp
  have hm0 := HM0.out
  refine wpMk1_last ?_
  change wpQuiet _ _ _ _ (_ :: _ :: _ :: _ :: _ :: _ :: []) _
  repeat (go_big_quiet_step (fail))
  refine wpQuiet_nil ?_
  intro V0 V W hM hW
  clear hm0
  obtain ⟨hg, hG⟩ : (V0 10).heap.size = σ 10 ∧ Blk (V 10) (σ 10) 27 #[.string ⟨#[]⟩, .int .i64 0, .int .i64 0, .int .i64 0, .int .i64 0] := hM.post 10 (by simp)
  have hz11 : w3.heap.size ≤ σ 10 := hg ▸ (hM.from0 10 (by simp)).size
  have hGG := hG.below (hM.later 10 (by simp)) hG.lt
  have hMW : Below w3.heap.size w3 W := (hM.whole 6 (by simp)).undrew
  have neO4 : ∀ k, (Value.slice (some ⟨bq, oq, none⟩) (spB 32 p0).length c4).ownBlock = some k → k ≠ σ 10 := fun k hk => by have := hO4lt.out k hk; omega
  clear hM hG hg hW q0
  generalize σ 10 = g at *
  have hq4 : Below w3.heap.size w3 W := bth (by repeat (first | exact Below.refl _ _ | refine Below.alloc ?_ (by first | exact Nat.le_refl _ | (simp <;> omega)) _ | refine Below.setCell ?_ (by first | exact Nat.le_refl _ | (simp <;> omega)) _)) hMW
  replace HB := bth HB hq4
  replace O4 := O4.later hq4
  replace hZ := hZ.below hq4 hZ.lt
  replace z0 := (hZ.cell 0).trans (show _ = some (.string ⟨#[]⟩) from rfl)
  replace z1 := (hZ.cell 1).trans (show _ = some (.int .i64 0) from rfl)
  replace z2 := (hZ.cell 2).trans (show _ = some (.int .i64 0) from rfl)
  replace z3 := (hZ.cell 3).trans (show _ = some (.int .i64 0) from rfl)
  replace z4 := (hZ.cell 4).trans (show _ = some (.int .i64 0) from rfl)
  replace hO := hO.below hq4 hO.lt
  replace o0 := (hO.cell 0).trans (show _ = some (.string ⟨#[]⟩) from rfl)
  replace o1 := (hO.cell 1).trans (show _ = some (.int .i64 0) from rfl)
  replace o2 := (hO.cell 2).trans (show _ = some (.int .i64 0) from rfl)
  replace o3 := (hO.cell 3).trans (show _ = some (.int .i64 0) from rfl)
  replace o4 := (hO.cell 4).trans (show _ = some (.int .i64 0) from rfl)
  have g0 := (hGG.cell 0).trans (show _ = some (.string ⟨#[]⟩) from rfl)
  have g1 := (hGG.cell 1).trans (show _ = some (.int .i64 0) from rfl)
  have g2 := (hGG.cell 2).trans (show _ = some (.int .i64 0) from rfl)
  have g3 := (hGG.cell 3).trans (show _ = some (.int .i64 0) from rfl)
  have g4 := (hGG.cell 4).trans (show _ = some (.int .i64 0) from rfl)
  refine wpMix_cons fun K2 hK2 => ?_
  change wpQuiet _ _ _ _ ([]) _
  refine wpQuiet_nil ?_
  change wpList _ _ _ (_ :: []) _ _
  have fhGG0 := hGG.frozen 0
  have fhGG1 := hGG.frozen 1
  have fhGG2 := hGG.frozen 2
  have fhGG3 := hGG.frozen 3
  have fhGG4 := hGG.frozen 4
  have yhZ := hZ.lt
  have yhO := hO.lt
  have yhGG := hGG.lt
  go_wp2
  clear fhGG0 fhGG1 fhGG2 fhGG3 fhGG4 yhZ yhO yhGG
  have hG0 : w.heap.size ≤ g := by have := HB.size; omega
  clear z0 z1 z2 z3 z4 o0 o1 o2 o3 o4 g0 g1 g2 g3 g4
  replace HB : Below w.heap.size w (World.setCell (World.setCell (World.setCell (World.setCell (World.setCell W ⟨g, 0, none⟩ (.string (x0.extract 0 m0))) ⟨g, 1, none⟩ (.int .i64 0)) ⟨g, 2, none⟩ (.int .i64 0)) ⟨g, 3, none⟩ (.int .i64 0)) ⟨g, 4, none⟩ (.int .i64 0)) := (((((HB.setCell (by show w.heap.size ≤ g; omega) (.string (x0.extract 0 m0)) (p := ⟨g, 0, none⟩)).setCell (by show w.heap.size ≤ g; omega) (.int .i64 0) (p := ⟨g, 1, none⟩)).setCell (by show w.heap.size ≤ g; omega) (.int .i64 0) (p := ⟨g, 2, none⟩)).setCell (by show w.heap.size ≤ g; omega) (.int .i64 0) (p := ⟨g, 3, none⟩)).setCell (by show w.heap.size ≤ g; omega) (.int .i64 0) (p := ⟨g, 4, none⟩))
  replace hZ := (((((hZ.far' (p := ⟨g, 0, none⟩) (by show _ ≠ g; omega) (.string (x0.extract 0 m0))).far' (p := ⟨g, 1, none⟩) (by show _ ≠ g; omega) (.int .i64 0)).far' (p := ⟨g, 2, none⟩) (by show _ ≠ g; omega) (.int .i64 0)).far' (p := ⟨g, 3, none⟩) (by show _ ≠ g; omega) (.int .i64 0)).far' (p := ⟨g, 4, none⟩) (by show _ ≠ g; omega) (.int .i64 0))
  replace hO := (((((hO.far' (p := ⟨g, 0, none⟩) (by show _ ≠ g; omega) (.string (x0.extract 0 m0))).far' (p := ⟨g, 1, none⟩) (by show _ ≠ g; omega) (.int .i64 0)).far' (p := ⟨g, 2, none⟩) (by show _ ≠ g; omega) (.int .i64 0)).far' (p := ⟨g, 3, none⟩) (by show _ ≠ g; omega) (.int .i64 0)).far' (p := ⟨g, 4, none⟩) (by show _ ≠ g; omega) (.int .i64 0))
  replace hGG : Blk (World.setCell (World.setCell (World.setCell (World.setCell (World.setCell W ⟨g, 0, none⟩ (.string (x0.extract 0 m0))) ⟨g, 1, none⟩ (.int .i64 0)) ⟨g, 2, none⟩ (.int .i64 0)) ⟨g, 3, none⟩ (.int .i64 0)) ⟨g, 4, none⟩ (.int .i64 0)) (g) 27 #[.string (x0.extract 0 m0), .int .i64 0, .int .i64 0, .int .i64 0, .int .i64 0] := (((((hGG.set_ 0 (.string (x0.extract 0 m0))).set_ 1 (.int .i64 0)).set_ 2 (.int .i64 0)).set_ 3 (.int .i64 0)).set_ 4 (.int .i64 0))
  replace O4 := O4.kept (grown_set (j := 4) (grown_set (j := 3) (grown_set (j := 2) (grown_set (j := 1) (grown_set (j := 0) (grown_refl W (some (g))) (.string (x0.extract 0 m0))) (.int .i64 0)) (.int .i64 0)) (.int .i64 0)) (.int .i64 0)) (fun k hk e => by have h1 := (O4.lt k hk); have h2 : k = g := (Option.some.inj e); first | omega | exact absurd h2 (neO4 k hk))
  have szW3 : ((World.setCell (World.setCell (World.setCell (World.setCell (World.setCell W ⟨g, 0, none⟩ (.string (x0.extract 0 m0))) ⟨g, 1, none⟩ (.int .i64 0)) ⟨g, 2, none⟩ (.int .i64 0)) ⟨g, 3, none⟩ (.int .i64 0)) ⟨g, 4, none⟩ (.int .i64 0))).heap.size = W.heap.size := by simp [World.setCell]
  generalize World.setCell (World.setCell (World.setCell (World.setCell (World.setCell W ⟨g, 0, none⟩ (.string (x0.extract 0 m0))) ⟨g, 1, none⟩ (.int .i64 0)) ⟨g, 2, none⟩ (.int .i64 0)) ⟨g, 3, none⟩ (.int .i64 0)) ⟨g, 4, none⟩ (.int .i64 0) = W3 at *
  have z0 := (hZ.cell 0).trans (show _ = some (.string ⟨#[]⟩) from rfl)
  have z1 := (hZ.cell 1).trans (show _ = some (.int .i64 0) from rfl)
  have z2 := (hZ.cell 2).trans (show _ = some (.int .i64 0) from rfl)
  have z3 := (hZ.cell 3).trans (show _ = some (.int .i64 0) from rfl)
  have z4 := (hZ.cell 4).trans (show _ = some (.int .i64 0) from rfl)
  have o0 := (hO.cell 0).trans (show _ = some (.string ⟨#[]⟩) from rfl)
  have o1 := (hO.cell 1).trans (show _ = some (.int .i64 0) from rfl)
  have o2 := (hO.cell 2).trans (show _ = some (.int .i64 0) from rfl)
  have o3 := (hO.cell 3).trans (show _ = some (.int .i64 0) from rfl)
  have o4 := (hO.cell 4).trans (show _ = some (.int .i64 0) from rfl)
  have g0 := (hGG.cell 0).trans (show _ = some (.string (x0.extract 0 m0)) from rfl)
  have g1 := (hGG.cell 1).trans (show _ = some (.int .i64 0) from rfl)
  have g2 := (hGG.cell 2).trans (show _ = some (.int .i64 0) from rfl)
  have g3 := (hGG.cell 3).trans (show _ = some (.int .i64 0) from rfl)
  have g4 := (hGG.cell 4).trans (show _ = some (.int .i64 0) from rfl)
  have Q4 := O4.rds (hf := bC_len)
  obtain ⟨b', o', y', e', hbl, hy, hcy⟩ := Q4.at_ (Below.refl _ _) (k := 0) L0.out
  simp only [Option.some.injEq, Addr.mk.injEq, and_true] at e'
  obtain ⟨rfl, rfl⟩ := e'
  obtain rfl : x0 = y' := Option.some.inj (HX0.out.symm.trans hy)
  have q9 := hcy 0 _ rfl (Kin.self _)
  simp only [Nat.mul_one, Nat.add_zero, Kin.self, Nat.zero_mul] at q9
  have hC9 : CC W3 := (HCC.out _).2 ⟨q9, hbl⟩
  clear q9 hy hcy hbl Q4
  refine Nrm_intro (hC9) (hK2 _ _ ?_)
  refine wpMix_last ?_
  change wpQuiet _ _ _ _ ([]) _
  refine wpQuiet_nil ?_
  clear hC9 hCin HCC
  have Q4 := O4.rds (hf := bC_len)
  obtain ⟨b', o', y', e', hbl, hy, hcy⟩ := Q4.at_ (Below.refl _ _) (k := 1) L1.out
  simp only [Option.some.injEq, Addr.mk.injEq, and_true] at e'
  obtain ⟨rfl, rfl⟩ := e'
  obtain rfl : x1 = y' := Option.some.inj (HX1.out.symm.trans hy)
  have q1 := hcy 0 _ rfl (Kin.self _)
  simp only [Nat.mul_one, Nat.add_zero, Kin.self] at q1
  clear hy hcy hbl Q4
  have ll1 := L1.out
  go_wp2_with fail
  refine (l1ReadV_is x1 y1 v1 b1 H1.out _).mono ?_
  rintro e w5 ⟨rfl, hb5⟩
  have hq5 : Below W3.heap.size W3 w5 := bth (by repeat (first | exact Below.refl _ _ | refine Below.alloc ?_ (by first | exact Nat.le_refl _ | (simp <;> omega)) _ | refine Below.setCell ?_ (by first | exact Nat.le_refl _ | (simp <;> omega)) _)) hb5
  replace HB := bth HB hq5
  replace O4 := O4.later hq5
  replace hZ := hZ.below hq5 hZ.lt
  replace z0 := (hZ.cell 0).trans (show _ = some (.string ⟨#[]⟩) from rfl)
  replace z1 := (hZ.cell 1).trans (show _ = some (.int .i64 0) from rfl)
  replace z2 := (hZ.cell 2).trans (show _ = some (.int .i64 0) from rfl)
  replace z3 := (hZ.cell 3).trans (show _ = some (.int .i64 0) from rfl)
  replace z4 := (hZ.cell 4).trans (show _ = some (.int .i64 0) from rfl)
  replace hO := hO.below hq5 hO.lt
  replace o0 := (hO.cell 0).trans (show _ = some (.string ⟨#[]⟩) from rfl)
  replace o1 := (hO.cell 1).trans (show _ = some (.int .i64 0) from rfl)
  replace o2 := (hO.cell 2).trans (show _ = some (.int .i64 0) from rfl)
  replace o3 := (hO.cell 3).trans (show _ = some (.int .i64 0) from rfl)
  replace o4 := (hO.cell 4).trans (show _ = some (.int .i64 0) from rfl)
  replace hGG := hGG.below hq5 hGG.lt
  replace g0 := (hGG.cell 0).trans (show _ = some (.string (x0.extract 0 m0)) from rfl)
  replace g1 := (hGG.cell 1).trans (show _ = some (.int .i64 0) from rfl)
  replace g2 := (hGG.cell 2).trans (show _ = some (.int .i64 0) from rfl)
  replace g3 := (hGG.cell 3).trans (show _ = some (.int .i64 0) from rfl)
  replace g4 := (hGG.cell 4).trans (show _ = some (.int .i64 0) from rfl)
  clear q1
  have fhGG2 := hGG.frozen 2
  have yhZ := hZ.lt
  have yhO := hO.lt
  have yhGG := hGG.lt
  go_upto_region 9 with fail
  clear fhGG2 yhZ yhO yhGG
  clear z0 z1 z2 z3 z4 o0 o1 o2 o3 o4 g0 g1 g2 g3 g4
  replace HB : Below w.heap.size w (World.setCell w5 ⟨g, 2, none⟩ (.int .i64 v1)) := (HB.setCell (by show w.heap.size ≤ g; omega) (.int .i64 v1) (p := ⟨g, 2, none⟩))
  replace hZ := (hZ.far' (p := ⟨g, 2, none⟩) (by show _ ≠ g; omega) (.int .i64 v1))
  replace hO := (hO.far' (p := ⟨g, 2, none⟩) (by show _ ≠ g; omega) (.int .i64 v1))
  replace hGG : Blk (World.setCell w5 ⟨g, 2, none⟩ (.int .i64 v1)) (g) 27 #[.string (x0.extract 0 m0), .int .i64 0, .int .i64 v1, .int .i64 0, .int .i64 0] := (hGG.set_ 2 (.int .i64 v1))
  replace O4 := O4.kept (grown_set (j := 2) (grown_refl w5 (some (g))) (.int .i64 v1)) (fun k hk e => by have h1 := (O4.lt k hk); have h2 : k = g := (Option.some.inj e); first | omega | exact absurd h2 (neO4 k hk))
  have szW5 : ((World.setCell w5 ⟨g, 2, none⟩ (.int .i64 v1))).heap.size = w5.heap.size := by simp [World.setCell]
  generalize World.setCell w5 ⟨g, 2, none⟩ (.int .i64 v1) = W5 at *
  have z0 := (hZ.cell 0).trans (show _ = some (.string ⟨#[]⟩) from rfl)
  have z1 := (hZ.cell 1).trans (show _ = some (.int .i64 0) from rfl)
  have z2 := (hZ.cell 2).trans (show _ = some (.int .i64 0) from rfl)
  have z3 := (hZ.cell 3).trans (show _ = some (.int .i64 0) from rfl)
  have z4 := (hZ.cell 4).trans (show _ = some (.int .i64 0) from rfl)
  have o0 := (hO.cell 0).trans (show _ = some (.string ⟨#[]⟩) from rfl)
  have o1 := (hO.cell 1).trans (show _ = some (.int .i64 0) from rfl)
  have o2 := (hO.cell 2).trans (show _ = some (.int .i64 0) from rfl)
  have o3 := (hO.cell 3).trans (show _ = some (.int .i64 0) from rfl)
  have o4 := (hO.cell 4).trans (show _ = some (.int .i64 0) from rfl)
  have g0 := (hGG.cell 0).trans (show _ = some (.string (x0.extract 0 m0)) from rfl)
  have g1 := (hGG.cell 1).trans (show _ = some (.int .i64 0) from rfl)
  have g2 := (hGG.cell 2).trans (show _ = some (.int .i64 v1) from rfl)
  have g3 := (hGG.cell 3).trans (show _ = some (.int .i64 0) from rfl)
  have g4 := (hGG.cell 4).trans (show _ = some (.int .i64 0) from rfl)
  have Q4 := O4.rds (hf := bC_len)
  obtain ⟨b', o', y', e', hbl, hy, hcy⟩ := Q4.at_ (Below.refl _ _) (k := 3) L3.out
  simp only [Option.some.injEq, Addr.mk.injEq, and_true] at e'
  obtain ⟨rfl, rfl⟩ := e'
  obtain rfl : x3 = y' := Option.some.inj (HX3.out.symm.trans hy)
  have q3 := hcy 0 _ rfl (Kin.self _)
  simp only [Nat.mul_one, Nat.add_zero, Kin.self] at q3
  clear hy hcy hbl Q4
  have ll3 := L3.out
  go_wp2_with fail
  refine (l1ReadV_is x3 y3 v3 b3 HR3.out _).mono ?_
  rintro e w6 ⟨rfl, hb6⟩
  have hq6 : Below W5.heap.size W5 w6 := bth (by repeat (first | exact Below.refl _ _ | refine Below.alloc ?_ (by first | exact Nat.le_refl _ | (simp <;> omega)) _ | refine Below.setCell ?_ (by first | exact Nat.le_refl _ | (simp <;> omega)) _)) hb6
  replace HB := bth HB hq6
  replace O4 := O4.later hq6
  replace hZ := hZ.below hq6 hZ.lt
  replace z0 := (hZ.cell 0).trans (show _ = some (.string ⟨#[]⟩) from rfl)
  replace z1 := (hZ.cell 1).trans (show _ = some (.int .i64 0) from rfl)
  replace z2 := (hZ.cell 2).trans (show _ = some (.int .i64 0) from rfl)
  replace z3 := (hZ.cell 3).trans (show _ = some (.int .i64 0) from rfl)
  replace z4 := (hZ.cell 4).trans (show _ = some (.int .i64 0) from rfl)
  replace hO := hO.below hq6 hO.lt
  replace o0 := (hO.cell 0).trans (show _ = some (.string ⟨#[]⟩) from rfl)
  replace o1 := (hO.cell 1).trans (show _ = some (.int .i64 0) from rfl)
  replace o2 := (hO.cell 2).trans (show _ = some (.int .i64 0) from rfl)
  replace o3 := (hO.cell 3).trans (show _ = some (.int .i64 0) from rfl)
  replace o4 := (hO.cell 4).trans (show _ = some (.int .i64 0) from rfl)
  replace hGG := hGG.below hq6 hGG.lt
  replace g0 := (hGG.cell 0).trans (show _ = some (.string (x0.extract 0 m0)) from rfl)
  replace g1 := (hGG.cell 1).trans (show _ = some (.int .i64 0) from rfl)
  replace g2 := (hGG.cell 2).trans (show _ = some (.int .i64 v1) from rfl)
  replace g3 := (hGG.cell 3).trans (show _ = some (.int .i64 0) from rfl)
  replace g4 := (hGG.cell 4).trans (show _ = some (.int .i64 0) from rfl)
  clear q3
  have fhGG3 := hGG.frozen 3
  have yhZ := hZ.lt
  have yhO := hO.lt
  have yhGG := hGG.lt
  go_upto_region 10 with fail
  clear fhGG3 yhZ yhO yhGG
  clear z0 z1 z2 z3 z4 o0 o1 o2 o3 o4 g0 g1 g2 g3 g4
  replace HB : Below w.heap.size w (World.setCell w6 ⟨g, 3, none⟩ (.int .i64 v3)) := (HB.setCell (by show w.heap.size ≤ g; omega) (.int .i64 v3) (p := ⟨g, 3, none⟩))
  replace hZ := (hZ.far' (p := ⟨g, 3, none⟩) (by show _ ≠ g; omega) (.int .i64 v3))
  replace hO := (hO.far' (p := ⟨g, 3, none⟩) (by show _ ≠ g; omega) (.int .i64 v3))
  replace hGG : Blk (World.setCell w6 ⟨g, 3, none⟩ (.int .i64 v3)) (g) 27 #[.string (x0.extract 0 m0), .int .i64 0, .int .i64 v1, .int .i64 v3, .int .i64 0] := (hGG.set_ 3 (.int .i64 v3))
  replace O4 := O4.kept (grown_set (j := 3) (grown_refl w6 (some (g))) (.int .i64 v3)) (fun k hk e => by have h1 := (O4.lt k hk); have h2 : k = g := (Option.some.inj e); first | omega | exact absurd h2 (neO4 k hk))
  have szW6 : ((World.setCell w6 ⟨g, 3, none⟩ (.int .i64 v3))).heap.size = w6.heap.size := by simp [World.setCell]
  generalize World.setCell w6 ⟨g, 3, none⟩ (.int .i64 v3) = W6 at *
  have z0 := (hZ.cell 0).trans (show _ = some (.string ⟨#[]⟩) from rfl)
  have z1 := (hZ.cell 1).trans (show _ = some (.int .i64 0) from rfl)
  have z2 := (hZ.cell 2).trans (show _ = some (.int .i64 0) from rfl)
  have z3 := (hZ.cell 3).trans (show _ = some (.int .i64 0) from rfl)
  have z4 := (hZ.cell 4).trans (show _ = some (.int .i64 0) from rfl)
  have o0 := (hO.cell 0).trans (show _ = some (.string ⟨#[]⟩) from rfl)
  have o1 := (hO.cell 1).trans (show _ = some (.int .i64 0) from rfl)
  have o2 := (hO.cell 2).trans (show _ = some (.int .i64 0) from rfl)
  have o3 := (hO.cell 3).trans (show _ = some (.int .i64 0) from rfl)
  have o4 := (hO.cell 4).trans (show _ = some (.int .i64 0) from rfl)
  have g0 := (hGG.cell 0).trans (show _ = some (.string (x0.extract 0 m0)) from rfl)
  have g1 := (hGG.cell 1).trans (show _ = some (.int .i64 0) from rfl)
  have g2 := (hGG.cell 2).trans (show _ = some (.int .i64 v1) from rfl)
  have g3 := (hGG.cell 3).trans (show _ = some (.int .i64 v3) from rfl)
  have g4 := (hGG.cell 4).trans (show _ = some (.int .i64 0) from rfl)
  have d7 : ((spB 32 p0).length : Int) = 7 := by have := HN.out; omega
  have g7 : (((spB 32 p0).length : Int) == 7) = true := by rw [HN.out]; rfl
  go_upto_region 11 with fail
  have Q4 := O4.rds (hf := bC_len)
  obtain ⟨b', o', y', e', hbl, hy, hcy⟩ := Q4.at_ (Below.refl _ _) (k := 5) L5.out
  simp only [Option.some.injEq, Addr.mk.injEq, and_true] at e'
  obtain ⟨rfl, rfl⟩ := e'
  obtain rfl : x5 = y' := Option.some.inj (HX5.out.symm.trans hy)
  have q5 := hcy 0 _ rfl (Kin.self _)
  simp only [Nat.mul_one, Nat.add_zero, Kin.self] at q5
  clear hy hcy hbl Q4
  have ll5 := L5.out
  go_wp2_with fail
  refine (l1ReadV_is x5 y5 v5 b5 HR5.out _).mono ?_
  rintro e w7 ⟨rfl, hb7⟩
  have hq7 : Below W6.heap.size W6 w7 := bth (by repeat (first | exact Below.refl _ _ | refine Below.alloc ?_ (by first | exact Nat.le_refl _ | (simp <;> omega)) _ | refine Below.setCell ?_ (by first | exact Nat.le_refl _ | (simp <;> omega)) _)) hb7
  replace HB := bth HB hq7
  replace O4 := O4.later hq7
  replace hZ := hZ.below hq7 hZ.lt
  replace z0 := (hZ.cell 0).trans (show _ = some (.string ⟨#[]⟩) from rfl)
  replace z1 := (hZ.cell 1).trans (show _ = some (.int .i64 0) from rfl)
  replace z2 := (hZ.cell 2).trans (show _ = some (.int .i64 0) from rfl)
  replace z3 := (hZ.cell 3).trans (show _ = some (.int .i64 0) from rfl)
  replace z4 := (hZ.cell 4).trans (show _ = some (.int .i64 0) from rfl)
  replace hO := hO.below hq7 hO.lt
  replace o0 := (hO.cell 0).trans (show _ = some (.string ⟨#[]⟩) from rfl)
  replace o1 := (hO.cell 1).trans (show _ = some (.int .i64 0) from rfl)
  replace o2 := (hO.cell 2).trans (show _ = some (.int .i64 0) from rfl)
  replace o3 := (hO.cell 3).trans (show _ = some (.int .i64 0) from rfl)
  replace o4 := (hO.cell 4).trans (show _ = some (.int .i64 0) from rfl)
  replace hGG := hGG.below hq7 hGG.lt
  replace g0 := (hGG.cell 0).trans (show _ = some (.string (x0.extract 0 m0)) from rfl)
  replace g1 := (hGG.cell 1).trans (show _ = some (.int .i64 0) from rfl)
  replace g2 := (hGG.cell 2).trans (show _ = some (.int .i64 v1) from rfl)
  replace g3 := (hGG.cell 3).trans (show _ = some (.int .i64 v3) from rfl)
  replace g4 := (hGG.cell 4).trans (show _ = some (.int .i64 0) from rfl)
  clear q5
  have fhGG4 := hGG.frozen 4
  have yhZ := hZ.lt
  have yhO := hO.lt
  have yhGG := hGG.lt
  go_upto_region 12 with fail
  clear fhGG4 yhZ yhO yhGG
  clear z0 z1 z2 z3 z4 o0 o1 o2 o3 o4 g0 g1 g2 g3 g4
  replace HB : Below w.heap.size w (World.setCell w7 ⟨g, 4, none⟩ (.int .i64 v5)) := (HB.setCell (by show w.heap.size ≤ g; omega) (.int .i64 v5) (p := ⟨g, 4, none⟩))
  replace hZ := (hZ.far' (p := ⟨g, 4, none⟩) (by show _ ≠ g; omega) (.int .i64 v5))
  replace hO := (hO.far' (p := ⟨g, 4, none⟩) (by show _ ≠ g; omega) (.int .i64 v5))
  replace hGG : Blk (World.setCell w7 ⟨g, 4, none⟩ (.int .i64 v5)) (g) 27 #[.string (x0.extract 0 m0), .int .i64 0, .int .i64 v1, .int .i64 v3, .int .i64 v5] := (hGG.set_ 4 (.int .i64 v5))
  replace O4 := O4.kept (grown_set (j := 4) (grown_refl w7 (some (g))) (.int .i64 v5)) (fun k hk e => by have h1 := (O4.lt k hk); have h2 : k = g := (Option.some.inj e); first | omega | exact absurd h2 (neO4 k hk))
  have szW7 : ((World.setCell w7 ⟨g, 4, none⟩ (.int .i64 v5))).heap.size = w7.heap.size := by simp [World.setCell]
  generalize World.setCell w7 ⟨g, 4, none⟩ (.int .i64 v5) = W7 at *
  have z0 := (hZ.cell 0).trans (show _ = some (.string ⟨#[]⟩) from rfl)
  have z1 := (hZ.cell 1).trans (show _ = some (.int .i64 0) from rfl)
  have z2 := (hZ.cell 2).trans (show _ = some (.int .i64 0) from rfl)
  have z3 := (hZ.cell 3).trans (show _ = some (.int .i64 0) from rfl)
  have z4 := (hZ.cell 4).trans (show _ = some (.int .i64 0) from rfl)
  have o0 := (hO.cell 0).trans (show _ = some (.string ⟨#[]⟩) from rfl)
  have o1 := (hO.cell 1).trans (show _ = some (.int .i64 0) from rfl)
  have o2 := (hO.cell 2).trans (show _ = some (.int .i64 0) from rfl)
  have o3 := (hO.cell 3).trans (show _ = some (.int .i64 0) from rfl)
  have o4 := (hO.cell 4).trans (show _ = some (.int .i64 0) from rfl)
  have g0 := (hGG.cell 0).trans (show _ = some (.string (x0.extract 0 m0)) from rfl)
  have g1 := (hGG.cell 1).trans (show _ = some (.int .i64 0) from rfl)
  have g2 := (hGG.cell 2).trans (show _ = some (.int .i64 v1) from rfl)
  have g3 := (hGG.cell 3).trans (show _ = some (.int .i64 v3) from rfl)
  have g4 := (hGG.cell 4).trans (show _ = some (.int .i64 v5) from rfl)
  clear O4 neO4 
  go_wp2
  go_loopw [3, 9] (fun t i wr => ∃ (k : Nat) (nd : Int), 1 ≤ k ∧ k ≤ 4 ∧ t = .bool false ∧ i = .int .i64 k ∧ Below w.heap.size w wr ∧ Blk wr g 27 #[.string (x0.extract 0 m0), .int .i64 nd, .int .i64 v1, .int .i64 v3, .int .i64 v5] ∧ Blk wr w.heap.size 27 #[.string ⟨#[]⟩, .int .i64 0, .int .i64 0, .int .i64 0, .int .i64 0] ∧ Blk wr (w.heap.size + 1) 27 #[.string ⟨#[]⟩, .int .i64 0, .int .i64 0, .int .i64 0, .int .i64 0] ∧ ∀ r, isR s r → (k : Int) ≤ r.need) (fun _ i _ => 4 - (intOf i).toNat)
  case atStart => exact ⟨1, 0, Nat.le_refl _, by omega, rfl, rfl, HB, hGG, hZ, hO, fun r h => by have := resB_bd' h.1; omega⟩
  case round =>
    clear z0 z1 z2 z3 z4 o0 o1 o2 o3 o4 g0 g1 g2 g3 g4 hGG hZ hO HB
    obtain ⟨k, nd, hk1, hk4, rfl, rfl, HB, hGG, hZ, hO, hmin⟩ := hrel
    have HMIN := Lib.hid hmin; clear hmin
    have g0 := (hGG.cell 0).trans (show _ = some (.string (x0.extract 0 m0)) from rfl)
    have g1 := (hGG.cell 1).trans (show _ = some (.int .i64 nd) from rfl)
    have g2 := (hGG.cell 2).trans (show _ = some (.int .i64 v1) from rfl)
    have g3 := (hGG.cell 3).trans (show _ = some (.int .i64 v3) from rfl)
    have g4 := (hGG.cell 4).trans (show _ = some (.int .i64 v5) from rfl)
    have z0 := (hZ.cell 0).trans (show _ = some (.string ⟨#[]⟩) from rfl)
    have z1 := (hZ.cell 1).trans (show _ = some (.int .i64 0) from rfl)
    have z2 := (hZ.cell 2).trans (show _ = some (.int .i64 0) from rfl)
    have z3 := (hZ.cell 3).trans (show _ = some (.int .i64 0) from rfl)
    have z4 := (hZ.cell 4).trans (show _ = some (.int .i64 0) from rfl)
    have o0 := (hO.cell 0).trans (show _ = some (.string ⟨#[]⟩) from rfl)
    have o1 := (hO.cell 1).trans (show _ = some (.int .i64 0) from rfl)
    have o2 := (hO.cell 2).trans (show _ = some (.int .i64 0) from rfl)
    have o3 := (hO.cell 3).trans (show _ = some (.int .i64 0) from rfl)
    have o4 := (hO.cell 4).trans (show _ = some (.int .i64 0) from rfl)
    by_cases hk : k = 4
    · subst hk
      have HNO : Hid (¬ ∃ r, isR s r) := Lib.hid (fun ⟨r, h⟩ => by have h1 := HMIN.out r h; have := resB_bd' h.1; omega)
      have fhZ0 := hZ.frozen 0
      have fhZ1 := hZ.frozen 1
      have fhZ2 := hZ.frozen 2
      have fhZ3 := hZ.frozen 3
      have fhZ4 := hZ.frozen 4
      have yhGG := hGG.lt
      have yhZ := hZ.lt
      have yhO := hO.lt
      go_wp2
      clear g0 g1 g2 g3 g4 z0 z1 z2 z3 z4 o0 o1 o2 o3 o4
      replace HB : Below w.heap.size w (World.setCell (World.setCell (World.setCell (World.setCell (World.setCell wr ⟨w.heap.size, 0, none⟩ (.string ⟨#[]⟩)) ⟨w.heap.size, 1, none⟩ (.int .i64 0)) ⟨w.heap.size, 2, none⟩ (.int .i64 0)) ⟨w.heap.size, 3, none⟩ (.int .i64 0)) ⟨w.heap.size, 4, none⟩ (.int .i64 0)) := (((((HB.setCell (by show w.heap.size ≤ w.heap.size; omega) (.string ⟨#[]⟩) (p := ⟨w.heap.size, 0, none⟩)).setCell (by show w.heap.size ≤ w.heap.size; omega) (.int .i64 0) (p := ⟨w.heap.size, 1, none⟩)).setCell (by show w.heap.size ≤ w.heap.size; omega) (.int .i64 0) (p := ⟨w.heap.size, 2, none⟩)).setCell (by show w.heap.size ≤ w.heap.size; omega) (.int .i64 0) (p := ⟨w.heap.size, 3, none⟩)).setCell (by show w.heap.size ≤ w.heap.size; omega) (.int .i64 0) (p := ⟨w.heap.size, 4, none⟩))
      replace hGG := (((((hGG.far' (p := ⟨w.heap.size, 0, none⟩) (by show _ ≠ w.heap.size; omega) (.string ⟨#[]⟩)).far' (p := ⟨w.heap.size, 1, none⟩) (by show _ ≠ w.heap.size; omega) (.int .i64 0)).far' (p := ⟨w.heap.size, 2, none⟩) (by show _ ≠ w.heap.size; omega) (.int .i64 0)).far' (p := ⟨w.heap.size, 3, none⟩) (by show _ ≠ w.heap.size; omega) (.int .i64 0)).far' (p := ⟨w.heap.size, 4, none⟩) (by show _ ≠ w.heap.size; omega) (.int .i64 0))
      replace hZ : Blk (World.setCell (World.setCell (World.setCell (World.setCell (World.setCell wr ⟨w.heap.size, 0, none⟩ (.string ⟨#[]⟩)) ⟨w.heap.size, 1, none⟩ (.int .i64 0)) ⟨w.heap.size, 2, none⟩ (.int .i64 0)) ⟨w.heap.size, 3, none⟩ (.int .i64 0)) ⟨w.heap.size, 4, none⟩ (.int .i64 0)) (w.heap.size) 27 #[.string ⟨#[]⟩, .int .i64 0, .int .i64 0, .int .i64 0, .int .i64 0] := (((((hZ.set_ 0 (.string ⟨#[]⟩)).set_ 1 (.int .i64 0)).set_ 2 (.int .i64 0)).set_ 3 (.int .i64 0)).set_ 4 (.int .i64 0))
      replace hO := (((((hO.far' (p := ⟨w.heap.size, 0, none⟩) (by show _ ≠ w.heap.size; omega) (.string ⟨#[]⟩)).far' (p := ⟨w.heap.size, 1, none⟩) (by show _ ≠ w.heap.size; omega) (.int .i64 0)).far' (p := ⟨w.heap.size, 2, none⟩) (by show _ ≠ w.heap.size; omega) (.int .i64 0)).far' (p := ⟨w.heap.size, 3, none⟩) (by show _ ≠ w.heap.size; omega) (.int .i64 0)).far' (p := ⟨w.heap.size, 4, none⟩) (by show _ ≠ w.heap.size; omega) (.int .i64 0))
      have szW9 : ((World.setCell (World.setCell (World.setCell (World.setCell (World.setCell wr ⟨w.heap.size, 0, none⟩ (.string ⟨#[]⟩)) ⟨w.heap.size, 1, none⟩ (.int .i64 0)) ⟨w.heap.size, 2, none⟩ (.int .i64 0)) ⟨w.heap.size, 3, none⟩ (.int .i64 0)) ⟨w.heap.size, 4, none⟩ (.int .i64 0))).heap.size = wr.heap.size := by simp [World.setCell]
      generalize World.setCell (World.setCell (World.setCell (World.setCell (World.setCell wr ⟨w.heap.size, 0, none⟩ (.string ⟨#[]⟩)) ⟨w.heap.size, 1, none⟩ (.int .i64 0)) ⟨w.heap.size, 2, none⟩ (.int .i64 0)) ⟨w.heap.size, 3, none⟩ (.int .i64 0)) ⟨w.heap.size, 4, none⟩ (.int .i64 0) = W9 at *
      have g0 := (hGG.cell 0).trans (show _ = some (.string (x0.extract 0 m0)) from rfl)
      have g1 := (hGG.cell 1).trans (show _ = some (.int .i64 nd) from rfl)
      have g2 := (hGG.cell 2).trans (show _ = some (.int .i64 v1) from rfl)
      have g3 := (hGG.cell 3).trans (show _ = some (.int .i64 v3) from rfl)
      have g4 := (hGG.cell 4).trans (show _ = some (.int .i64 v5) from rfl)
      have z0 := (hZ.cell 0).trans (show _ = some (.string ⟨#[]⟩) from rfl)
      have z1 := (hZ.cell 1).trans (show _ = some (.int .i64 0) from rfl)
      have z2 := (hZ.cell 2).trans (show _ = some (.int .i64 0) from rfl)
      have z3 := (hZ.cell 3).trans (show _ = some (.int .i64 0) from rfl)
      have z4 := (hZ.cell 4).trans (show _ = some (.int .i64 0) from rfl)
      have o0 := (hO.cell 0).trans (show _ = some (.string ⟨#[]⟩) from rfl)
      have o1 := (hO.cell 1).trans (show _ = some (.int .i64 0) from rfl)
      have o2 := (hO.cell 2).trans (show _ = some (.int .i64 0) from rfl)
      have o3 := (hO.cell 3).trans (show _ = some (.int .i64 0) from rfl)
      have o4 := (hO.cell 4).trans (show _ = some (.int .i64 0) from rfl)
      refine bodyPost_ret (v := .tuple #[.agg #[.string ⟨#[]⟩, .int .i64 0, .int .i64 0, .int .i64 0, .int .i64 0], .bool false]) (by simp [results, Tryz.results50, go_sem, z0, z1, z2, z3, z4]) rfl ?_
      exact ⟨by rw [poO_no HNO.out]; rfl, HB⟩
    have hk3 : (k : Int) ≤ 3 := by omega
    have fhGG1 := hGG.frozen 1
    have yhGG := hGG.lt
    have yhZ := hZ.lt
    have yhO := hO.lt
    go_upto_region 16 with fail
    clear fhGG1 yhGG yhZ yhO
    clear g0 g1 g2 g3 g4 z0 z1 z2 z3 z4 o0 o1 o2 o3 o4
    replace HB : Below w.heap.size w (World.setCell wr ⟨g, 1, none⟩ (.int .i64 k)) := (HB.setCell (by show w.heap.size ≤ g; omega) (.int .i64 k) (p := ⟨g, 1, none⟩))
    replace hGG : Blk (World.setCell wr ⟨g, 1, none⟩ (.int .i64 k)) (g) 27 #[.string (x0.extract 0 m0), .int .i64 k, .int .i64 v1, .int .i64 v3, .int .i64 v5] := (hGG.set_ 1 (.int .i64 k))
    replace hZ := (hZ.far' (p := ⟨g, 1, none⟩) (by show _ ≠ g; omega) (.int .i64 k))
    replace hO := (hO.far' (p := ⟨g, 1, none⟩) (by show _ ≠ g; omega) (.int .i64 k))
    have szW8 : ((World.setCell wr ⟨g, 1, none⟩ (.int .i64 k))).heap.size = wr.heap.size := by simp [World.setCell]
    generalize World.setCell wr ⟨g, 1, none⟩ (.int .i64 k) = W8 at *
    have g0 := (hGG.cell 0).trans (show _ = some (.string (x0.extract 0 m0)) from rfl)
    have g1 := (hGG.cell 1).trans (show _ = some (.int .i64 k) from rfl)
    have g2 := (hGG.cell 2).trans (show _ = some (.int .i64 v1) from rfl)
    have g3 := (hGG.cell 3).trans (show _ = some (.int .i64 v3) from rfl)
    have g4 := (hGG.cell 4).trans (show _ = some (.int .i64 v5) from rfl)
    have z0 := (hZ.cell 0).trans (show _ = some (.string ⟨#[]⟩) from rfl)
    have z1 := (hZ.cell 1).trans (show _ = some (.int .i64 0) from rfl)
    have z2 := (hZ.cell 2).trans (show _ = some (.int .i64 0) from rfl)
    have z3 := (hZ.cell 3).trans (show _ = some (.int .i64 0) from rfl)
    have z4 := (hZ.cell 4).trans (show _ = some (.int .i64 0) from rfl)
    have o0 := (hO.cell 0).trans (show _ = some (.string ⟨#[]⟩) from rfl)
    have o1 := (hO.cell 1).trans (show _ = some (.int .i64 0) from rfl)
    have o2 := (hO.cell 2).trans (show _ = some (.int .i64 0) from rfl)
    have o3 := (hO.cell 3).trans (show _ = some (.int .i64 0) from rfl)
    have o4 := (hO.cell 4).trans (show _ = some (.int .i64 0) from rfl)
    by_cases hY : isR s ⟨x0.extract 0 m0, (k : Int), v1, v3, v5, hms⟩
    · have HY := Lib.hid hY
      have hcmp : ((⟨x0.extract 0 m0, (k : Int), v1, v3, v5, hms⟩ : Res).line.toList == s.toList) = true := beq_iff_eq.2 (by rw [hY.2])
      clear hY
      go_wp2_with fail
      refine (l26One_is (x0.extract 0 m0) k v1 v3 v5 hms _ HY.out.1 _).mono ?_
      rintro e w8 ⟨rfl, hb8⟩
      have hq8 : Below W8.heap.size W8 w8 := bth (by repeat (first | exact Below.refl _ _ | refine Below.alloc ?_ (by first | exact Nat.le_refl _ | (simp <;> omega)) _ | refine Below.setCell ?_ (by first | exact Nat.le_refl _ | (simp <;> omega)) _)) hb8
      replace HB := bth HB hq8
      replace hGG := hGG.below hq8 hGG.lt
      replace g0 := (hGG.cell 0).trans (show _ = some (.string (x0.extract 0 m0)) from rfl)
      replace g1 := (hGG.cell 1).trans (show _ = some (.int .i64 k) from rfl)
      replace g2 := (hGG.cell 2).trans (show _ = some (.int .i64 v1) from rfl)
      replace g3 := (hGG.cell 3).trans (show _ = some (.int .i64 v3) from rfl)
      replace g4 := (hGG.cell 4).trans (show _ = some (.int .i64 v5) from rfl)
      replace hZ := hZ.below hq8 hZ.lt
      replace z0 := (hZ.cell 0).trans (show _ = some (.string ⟨#[]⟩) from rfl)
      replace z1 := (hZ.cell 1).trans (show _ = some (.int .i64 0) from rfl)
      replace z2 := (hZ.cell 2).trans (show _ = some (.int .i64 0) from rfl)
      replace z3 := (hZ.cell 3).trans (show _ = some (.int .i64 0) from rfl)
      replace z4 := (hZ.cell 4).trans (show _ = some (.int .i64 0) from rfl)
      replace hO := hO.below hq8 hO.lt
      replace o0 := (hO.cell 0).trans (show _ = some (.string ⟨#[]⟩) from rfl)
      replace o1 := (hO.cell 1).trans (show _ = some (.int .i64 0) from rfl)
      replace o2 := (hO.cell 2).trans (show _ = some (.int .i64 0) from rfl)
      replace o3 := (hO.cell 3).trans (show _ = some (.int .i64 0) from rfl)
      replace o4 := (hO.cell 4).trans (show _ = some (.int .i64 0) from rfl)
      go_wp2_with fail
      refine (l26Line_is ⟨x0.extract 0 m0, (k : Int), v1, v3, v5, hms⟩ HY.out.1 _).mono ?_
      rintro e w9 ⟨rfl, hb9⟩
      have hq9 : Below w8.heap.size w8 w9 := bth (by repeat (first | exact Below.refl _ _ | refine Below.alloc ?_ (by first | exact Nat.le_refl _ | (simp <;> omega)) _ | refine Below.setCell ?_ (by first | exact Nat.le_refl _ | (simp <;> omega)) _)) hb9
      replace HB := bth HB hq9
      replace hGG := hGG.below hq9 hGG.lt
      replace g0 := (hGG.cell 0).trans (show _ = some (.string (x0.extract 0 m0)) from rfl)
      replace g1 := (hGG.cell 1).trans (show _ = some (.int .i64 k) from rfl)
      replace g2 := (hGG.cell 2).trans (show _ = some (.int .i64 v1) from rfl)
      replace g3 := (hGG.cell 3).trans (show _ = some (.int .i64 v3) from rfl)
      replace g4 := (hGG.cell 4).trans (show _ = some (.int .i64 v5) from rfl)
      replace hZ := hZ.below hq9 hZ.lt
      replace z0 := (hZ.cell 0).trans (show _ = some (.string ⟨#[]⟩) from rfl)
      replace z1 := (hZ.cell 1).trans (show _ = some (.int .i64 0) from rfl)
      replace z2 := (hZ.cell 2).trans (show _ = some (.int .i64 0) from rfl)
      replace z3 := (hZ.cell 3).trans (show _ = some (.int .i64 0) from rfl)
      replace z4 := (hZ.cell 4).trans (show _ = some (.int .i64 0) from rfl)
      replace hO := hO.below hq9 hO.lt
      replace o0 := (hO.cell 0).trans (show _ = some (.string ⟨#[]⟩) from rfl)
      replace o1 := (hO.cell 1).trans (show _ = some (.int .i64 0) from rfl)
      replace o2 := (hO.cell 2).trans (show _ = some (.int .i64 0) from rfl)
      replace o3 := (hO.cell 3).trans (show _ = some (.int .i64 0) from rfl)
      replace o4 := (hO.cell 4).trans (show _ = some (.int .i64 0) from rfl)
      have fhZ0 := hZ.frozen 0
      have fhZ1 := hZ.frozen 1
      have fhZ2 := hZ.frozen 2
      have fhZ3 := hZ.frozen 3
      have fhZ4 := hZ.frozen 4
      have yhGG := hGG.lt
      have yhZ := hZ.lt
      have yhO := hO.lt
      go_wp2
      clear g0 g1 g2 g3 g4 z0 z1 z2 z3 z4 o0 o1 o2 o3 o4
      replace HB : Below w.heap.size w (World.setCell (World.setCell (World.setCell (World.setCell (World.setCell w9 ⟨w.heap.size, 0, none⟩ (.string (x0.extract 0 m0))) ⟨w.heap.size, 1, none⟩ (.int .i64 k)) ⟨w.heap.size, 2, none⟩ (.int .i64 v1)) ⟨w.heap.size, 3, none⟩ (.int .i64 v3)) ⟨w.heap.size, 4, none⟩ (.int .i64 v5)) := (((((HB.setCell (by show w.heap.size ≤ w.heap.size; omega) (.string (x0.extract 0 m0)) (p := ⟨w.heap.size, 0, none⟩)).setCell (by show w.heap.size ≤ w.heap.size; omega) (.int .i64 k) (p := ⟨w.heap.size, 1, none⟩)).setCell (by show w.heap.size ≤ w.heap.size; omega) (.int .i64 v1) (p := ⟨w.heap.size, 2, none⟩)).setCell (by show w.heap.size ≤ w.heap.size; omega) (.int .i64 v3) (p := ⟨w.heap.size, 3, none⟩)).setCell (by show w.heap.size ≤ w.heap.size; omega) (.int .i64 v5) (p := ⟨w.heap.size, 4, none⟩))
      replace hGG := (((((hGG.far' (p := ⟨w.heap.size, 0, none⟩) (by show _ ≠ w.heap.size; omega) (.string (x0.extract 0 m0))).far' (p := ⟨w.heap.size, 1, none⟩) (by show _ ≠ w.heap.size; omega) (.int .i64 k)).far' (p := ⟨w.heap.size, 2, none⟩) (by show _ ≠ w.heap.size; omega) (.int .i64 v1)).far' (p := ⟨w.heap.size, 3, none⟩) (by show _ ≠ w.heap.size; omega) (.int .i64 v3)).far' (p := ⟨w.heap.size, 4, none⟩) (by show _ ≠ w.heap.size; omega) (.int .i64 v5))
      replace hZ : Blk (World.setCell (World.setCell (World.setCell (World.setCell (World.setCell w9 ⟨w.heap.size, 0, none⟩ (.string (x0.extract 0 m0))) ⟨w.heap.size, 1, none⟩ (.int .i64 k)) ⟨w.heap.size, 2, none⟩ (.int .i64 v1)) ⟨w.heap.size, 3, none⟩ (.int .i64 v3)) ⟨w.heap.size, 4, none⟩ (.int .i64 v5)) (w.heap.size) 27 #[.string (x0.extract 0 m0), .int .i64 k, .int .i64 v1, .int .i64 v3, .int .i64 v5] := (((((hZ.set_ 0 (.string (x0.extract 0 m0))).set_ 1 (.int .i64 k)).set_ 2 (.int .i64 v1)).set_ 3 (.int .i64 v3)).set_ 4 (.int .i64 v5))
      replace hO := (((((hO.far' (p := ⟨w.heap.size, 0, none⟩) (by show _ ≠ w.heap.size; omega) (.string (x0.extract 0 m0))).far' (p := ⟨w.heap.size, 1, none⟩) (by show _ ≠ w.heap.size; omega) (.int .i64 k)).far' (p := ⟨w.heap.size, 2, none⟩) (by show _ ≠ w.heap.size; omega) (.int .i64 v1)).far' (p := ⟨w.heap.size, 3, none⟩) (by show _ ≠ w.heap.size; omega) (.int .i64 v3)).far' (p := ⟨w.heap.size, 4, none⟩) (by show _ ≠ w.heap.size; omega) (.int .i64 v5))
      have szW9 : ((World.setCell (World.setCell (World.setCell (World.setCell (World.setCell w9 ⟨w.heap.size, 0, none⟩ (.string (x0.extract 0 m0))) ⟨w.heap.size, 1, none⟩ (.int .i64 k)) ⟨w.heap.size, 2, none⟩ (.int .i64 v1)) ⟨w.heap.size, 3, none⟩ (.int .i64 v3)) ⟨w.heap.size, 4, none⟩ (.int .i64 v5))).heap.size = w9.heap.size := by simp [World.setCell]
      generalize World.setCell (World.setCell (World.setCell (World.setCell (World.setCell w9 ⟨w.heap.size, 0, none⟩ (.string (x0.extract 0 m0))) ⟨w.heap.size, 1, none⟩ (.int .i64 k)) ⟨w.heap.size, 2, none⟩ (.int .i64 v1)) ⟨w.heap.size, 3, none⟩ (.int .i64 v3)) ⟨w.heap.size, 4, none⟩ (.int .i64 v5) = W9 at *
      have g0 := (hGG.cell 0).trans (show _ = some (.string (x0.extract 0 m0)) from rfl)
      have g1 := (hGG.cell 1).trans (show _ = some (.int .i64 k) from rfl)
      have g2 := (hGG.cell 2).trans (show _ = some (.int .i64 v1) from rfl)
      have g3 := (hGG.cell 3).trans (show _ = some (.int .i64 v3) from rfl)
      have g4 := (hGG.cell 4).trans (show _ = some (.int .i64 v5) from rfl)
      have z0 := (hZ.cell 0).trans (show _ = some (.string (x0.extract 0 m0)) from rfl)
      have z1 := (hZ.cell 1).trans (show _ = some (.int .i64 k) from rfl)
      have z2 := (hZ.cell 2).trans (show _ = some (.int .i64 v1) from rfl)
      have z3 := (hZ.cell 3).trans (show _ = some (.int .i64 v3) from rfl)
      have z4 := (hZ.cell 4).trans (show _ = some (.int .i64 v5) from rfl)
      have o0 := (hO.cell 0).trans (show _ = some (.string ⟨#[]⟩) from rfl)
      have o1 := (hO.cell 1).trans (show _ = some (.int .i64 0) from rfl)
      have o2 := (hO.cell 2).trans (show _ = some (.int .i64 0) from rfl)
      have o3 := (hO.cell 3).trans (show _ = some (.int .i64 0) from rfl)
      have o4 := (hO.cell 4).trans (show _ = some (.int .i64 0) from rfl)
      refine bodyPost_ret (v := .tuple #[.agg #[.string (x0.extract 0 m0), .int .i64 k, .int .i64 v1, .int .i64 v3, .int .i64 v5], .bool true]) (by simp [results, Tryz.results50, go_sem, z0, z1, z2, z3, z4]) rfl ?_
      exact ⟨by rw [poO_yes HY.out]; rfl, HB⟩
    have hnext : ∀ r, isR s r → ((k + 1 : Nat) : Int) ≤ r.need := fun r h => by
      have h1 := HMIN.out r h
      by_cases hq : r.need = (k : Int)
      · exfalso
        apply hY
        obtain ⟨e1, e2, e3, e4⟩ := HF.out r h
        obtain ⟨rm, rn, ry, ro, ra, rs⟩ := r
        simp only at e1 e2 e3 e4 hq
        subst e1 e2 e3 e4 hq
        exact h
      · omega
    have HNX := Lib.hid hnext; clear hnext
    cases hv : resB ⟨x0.extract 0 m0, (k : Int), v1, v3, v5, hms⟩
    · have HV := Lib.hid hv; clear hv hY
      go_wp2_with fail
      refine (l26One_is (x0.extract 0 m0) k v1 v3 v5 hms _ HV.out _).mono ?_
      rintro e w8 ⟨rfl, hb8⟩
      have hq8 : Below W8.heap.size W8 w8 := bth (by repeat (first | exact Below.refl _ _ | refine Below.alloc ?_ (by first | exact Nat.le_refl _ | (simp <;> omega)) _ | refine Below.setCell ?_ (by first | exact Nat.le_refl _ | (simp <;> omega)) _)) hb8
      replace HB := bth HB hq8
      replace hGG := hGG.below hq8 hGG.lt
      replace g0 := (hGG.cell 0).trans (show _ = some (.string (x0.extract 0 m0)) from rfl)
      replace g1 := (hGG.cell 1).trans (show _ = some (.int .i64 k) from rfl)
      replace g2 := (hGG.cell 2).trans (show _ = some (.int .i64 v1) from rfl)
      replace g3 := (hGG.cell 3).trans (show _ = some (.int .i64 v3) from rfl)
      replace g4 := (hGG.cell 4).trans (show _ = some (.int .i64 v5) from rfl)
      replace hZ := hZ.below hq8 hZ.lt
      replace z0 := (hZ.cell 0).trans (show _ = some (.string ⟨#[]⟩) from rfl)
      replace z1 := (hZ.cell 1).trans (show _ = some (.int .i64 0) from rfl)
      replace z2 := (hZ.cell 2).trans (show _ = some (.int .i64 0) from rfl)
      replace z3 := (hZ.cell 3).trans (show _ = some (.int .i64 0) from rfl)
      replace z4 := (hZ.cell 4).trans (show _ = some (.int .i64 0) from rfl)
      replace hO := hO.below hq8 hO.lt
      replace o0 := (hO.cell 0).trans (show _ = some (.string ⟨#[]⟩) from rfl)
      replace o1 := (hO.cell 1).trans (show _ = some (.int .i64 0) from rfl)
      replace o2 := (hO.cell 2).trans (show _ = some (.int .i64 0) from rfl)
      replace o3 := (hO.cell 3).trans (show _ = some (.int .i64 0) from rfl)
      replace o4 := (hO.cell 4).trans (show _ = some (.int .i64 0) from rfl)
      go_wp2
      go_roundw
      case rel => exact ⟨k + 1, (k : Int), by omega, by omega, rfl, by go_num, HB, hGG, hZ, hO, HNX.out⟩
      case measure => simp [intOf]; omega
    · have hcmp : ((⟨x0.extract 0 m0, (k : Int), v1, v3, v5, hms⟩ : Res).line.toList == s.toList) = false := bytes_differ (fun e => hY ⟨hv, e⟩)
      have HV := Lib.hid hv; clear hv hY
      go_wp2_with fail
      refine (l26One_is (x0.extract 0 m0) k v1 v3 v5 hms _ HV.out _).mono ?_
      rintro e w8 ⟨rfl, hb8⟩
      have hq8 : Below W8.heap.size W8 w8 := bth (by repeat (first | exact Below.refl _ _ | refine Below.alloc ?_ (by first | exact Nat.le_refl _ | (simp <;> omega)) _ | refine Below.setCell ?_ (by first | exact Nat.le_refl _ | (simp <;> omega)) _)) hb8
      replace HB := bth HB hq8
      replace hGG := hGG.below hq8 hGG.lt
      replace g0 := (hGG.cell 0).trans (show _ = some (.string (x0.extract 0 m0)) from rfl)
      replace g1 := (hGG.cell 1).trans (show _ = some (.int .i64 k) from rfl)
      replace g2 := (hGG.cell 2).trans (show _ = some (.int .i64 v1) from rfl)
      replace g3 := (hGG.cell 3).trans (show _ = some (.int .i64 v3) from rfl)
      replace g4 := (hGG.cell 4).trans (show _ = some (.int .i64 v5) from rfl)
      replace hZ := hZ.below hq8 hZ.lt
      replace z0 := (hZ.cell 0).trans (show _ = some (.string ⟨#[]⟩) from rfl)
      replace z1 := (hZ.cell 1).trans (show _ = some (.int .i64 0) from rfl)
      replace z2 := (hZ.cell 2).trans (show _ = some (.int .i64 0) from rfl)
      replace z3 := (hZ.cell 3).trans (show _ = some (.int .i64 0) from rfl)
      replace z4 := (hZ.cell 4).trans (show _ = some (.int .i64 0) from rfl)
      replace hO := hO.below hq8 hO.lt
      replace o0 := (hO.cell 0).trans (show _ = some (.string ⟨#[]⟩) from rfl)
      replace o1 := (hO.cell 1).trans (show _ = some (.int .i64 0) from rfl)
      replace o2 := (hO.cell 2).trans (show _ = some (.int .i64 0) from rfl)
      replace o3 := (hO.cell 3).trans (show _ = some (.int .i64 0) from rfl)
      replace o4 := (hO.cell 4).trans (show _ = some (.int .i64 0) from rfl)
      go_wp2_with fail
      refine (l26Line_is ⟨x0.extract 0 m0, (k : Int), v1, v3, v5, hms⟩ HV.out _).mono ?_
      rintro e w9 ⟨rfl, hb9⟩
      have hq9 : Below w8.heap.size w8 w9 := bth (by repeat (first | exact Below.refl _ _ | refine Below.alloc ?_ (by first | exact Nat.le_refl _ | (simp <;> omega)) _ | refine Below.setCell ?_ (by first | exact Nat.le_refl _ | (simp <;> omega)) _)) hb9
      replace HB := bth HB hq9
      replace hGG := hGG.below hq9 hGG.lt
      replace g0 := (hGG.cell 0).trans (show _ = some (.string (x0.extract 0 m0)) from rfl)
      replace g1 := (hGG.cell 1).trans (show _ = some (.int .i64 k) from rfl)
      replace g2 := (hGG.cell 2).trans (show _ = some (.int .i64 v1) from rfl)
      replace g3 := (hGG.cell 3).trans (show _ = some (.int .i64 v3) from rfl)
      replace g4 := (hGG.cell 4).trans (show _ = some (.int .i64 v5) from rfl)
      replace hZ := hZ.below hq9 hZ.lt
      replace z0 := (hZ.cell 0).trans (show _ = some (.string ⟨#[]⟩) from rfl)
      replace z1 := (hZ.cell 1).trans (show _ = some (.int .i64 0) from rfl)
      replace z2 := (hZ.cell 2).trans (show _ = some (.int .i64 0) from rfl)
      replace z3 := (hZ.cell 3).trans (show _ = some (.int .i64 0) from rfl)
      replace z4 := (hZ.cell 4).trans (show _ = some (.int .i64 0) from rfl)
      replace hO := hO.below hq9 hO.lt
      replace o0 := (hO.cell 0).trans (show _ = some (.string ⟨#[]⟩) from rfl)
      replace o1 := (hO.cell 1).trans (show _ = some (.int .i64 0) from rfl)
      replace o2 := (hO.cell 2).trans (show _ = some (.int .i64 0) from rfl)
      replace o3 := (hO.cell 3).trans (show _ = some (.int .i64 0) from rfl)
      replace o4 := (hO.cell 4).trans (show _ = some (.int .i64 0) from rfl)
      go_wp2
      go_roundw
      case rel => exact ⟨k + 1, (k : Int), by omega, by omega, rfl, by go_num, HB, hGG, hZ, hO, HNX.out⟩
      case measure => simp [intOf]; omega
end Go.Proofs.YtbnncgahepcfnaaGreatDoor
