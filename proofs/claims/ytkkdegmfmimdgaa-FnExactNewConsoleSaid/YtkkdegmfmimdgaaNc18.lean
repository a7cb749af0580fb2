/- A new console. -/
import Derived.Test.YtkkdegmfmimdgaaNc17
import Derived.Test.YtkkdegmfmimdgaaNc16
import Derived.Deep.Cut
namespace Go.Proofs.Ytkkdegmfmimdgaa
open Go.RowKit Go.G9
theorem blk_set11 {W : World} {g : Nat} {t : TypeId} {a0 a1 a2 a3 a4 a5 a6 a7 a8 a9 a10 b0 b1 b2 b3 b4 b5 b6 b7 b8 b9 b10 : Value} (h : Blk W g t #[a0, a1, a2, a3, a4, a5, a6, a7, a8, a9, a10]) : Blk (World.setCell (World.setCell (World.setCell (World.setCell (World.setCell (World.setCell (World.setCell (World.setCell (World.setCell (World.setCell (World.setCell W ⟨g, 0, none⟩ b0) ⟨g, 1, none⟩ b1) ⟨g, 2, none⟩ b2) ⟨g, 3, none⟩ b3) ⟨g, 4, none⟩ b4) ⟨g, 5, none⟩ b5) ⟨g, 6, none⟩ b6) ⟨g, 7, none⟩ b7) ⟨g, 8, none⟩ b8) ⟨g, 9, none⟩ b9) ⟨g, 10, none⟩ b10) g t #[b0, b1, b2, b3, b4, b5, b6, b7, b8, b9, b10] := by
  have h0 : Blk (World.setCell W ⟨g, 0, none⟩ b0) g t #[b0, a1, a2, a3, a4, a5, a6, a7, a8, a9, a10] := h.set_ 0 b0
  have h1 : Blk (World.setCell (World.setCell W ⟨g, 0, none⟩ b0) ⟨g, 1, none⟩ b1) g t #[b0, b1, a2, a3, a4, a5, a6, a7, a8, a9, a10] := h0.set_ 1 b1
  have h2 : Blk (World.setCell (World.setCell (World.setCell W ⟨g, 0, none⟩ b0) ⟨g, 1, none⟩ b1) ⟨g, 2, none⟩ b2) g t #[b0, b1, b2, a3, a4, a5, a6, a7, a8, a9, a10] := h1.set_ 2 b2
  have h3 : Blk (World.setCell (World.setCell (World.setCell (World.setCell W ⟨g, 0, none⟩ b0) ⟨g, 1, none⟩ b1) ⟨g, 2, none⟩ b2) ⟨g, 3, none⟩ b3) g t #[b0, b1, b2, b3, a4, a5, a6, a7, a8, a9, a10] := h2.set_ 3 b3
  have h4 : Blk (World.setCell (World.setCell (World.setCell (World.setCell (World.setCell W ⟨g, 0, none⟩ b0) ⟨g, 1, none⟩ b1) ⟨g, 2, none⟩ b2) ⟨g, 3, none⟩ b3) ⟨g, 4, none⟩ b4) g t #[b0, b1, b2, b3, b4, a5, a6, a7, a8, a9, a10] := h3.set_ 4 b4
  have h5 : Blk (World.setCell (World.setCell (World.setCell (World.setCell (World.setCell (World.setCell W ⟨g, 0, none⟩ b0) ⟨g, 1, none⟩ b1) ⟨g, 2, none⟩ b2) ⟨g, 3, none⟩ b3) ⟨g, 4, none⟩ b4) ⟨g, 5, none⟩ b5) g t #[b0, b1, b2, b3, b4, b5, a6, a7, a8, a9, a10] := h4.set_ 5 b5
  have h6 : Blk (World.setCell (World.setCell (World.setCell (World.setCell (World.setCell (World.setCell (World.setCell W ⟨g, 0, none⟩ b0) ⟨g, 1, none⟩ b1) ⟨g, 2, none⟩ b2) ⟨g, 3, none⟩ b3) ⟨g, 4, none⟩ b4) ⟨g, 5, none⟩ b5) ⟨g, 6, none⟩ b6) g t #[b0, b1, b2, b3, b4, b5, b6, a7, a8, a9, a10] := h5.set_ 6 b6
  have h7 : Blk (World.setCell (World.setCell (World.setCell (World.setCell (World.setCell (World.setCell (World.setCell (World.setCell W ⟨g, 0, none⟩ b0) ⟨g, 1, none⟩ b1) ⟨g, 2, none⟩ b2) ⟨g, 3, none⟩ b3) ⟨g, 4, none⟩ b4) ⟨g, 5, none⟩ b5) ⟨g, 6, none⟩ b6) ⟨g, 7, none⟩ b7) g t #[b0, b1, b2, b3, b4, b5, b6, b7, a8, a9, a10] := h6.set_ 7 b7
  have h8 : Blk (World.setCell (World.setCell (World.setCell (World.setCell (World.setCell (World.setCell (World.setCell (World.setCell (World.setCell W ⟨g, 0, none⟩ b0) ⟨g, 1, none⟩ b1) ⟨g, 2, none⟩ b2) ⟨g, 3, none⟩ b3) ⟨g, 4, none⟩ b4) ⟨g, 5, none⟩ b5) ⟨g, 6, none⟩ b6) ⟨g, 7, none⟩ b7) ⟨g, 8, none⟩ b8) g t #[b0, b1, b2, b3, b4, b5, b6, b7, b8, a9, a10] := h7.set_ 8 b8
  have h9 : Blk (World.setCell (World.setCell (World.setCell (World.setCell (World.setCell (World.setCell (World.setCell (World.setCell (World.setCell (World.setCell W ⟨g, 0, none⟩ b0) ⟨g, 1, none⟩ b1) ⟨g, 2, none⟩ b2) ⟨g, 3, none⟩ b3) ⟨g, 4, none⟩ b4) ⟨g, 5, none⟩ b5) ⟨g, 6, none⟩ b6) ⟨g, 7, none⟩ b7) ⟨g, 8, none⟩ b8) ⟨g, 9, none⟩ b9) g t #[b0, b1, b2, b3, b4, b5, b6, b7, b8, b9, a10] := h8.set_ 9 b9
  have h10 : Blk (World.setCell (World.setCell (World.setCell (World.setCell (World.setCell (World.setCell (World.setCell (World.setCell (World.setCell (World.setCell (World.setCell W ⟨g, 0, none⟩ b0) ⟨g, 1, none⟩ b1) ⟨g, 2, none⟩ b2) ⟨g, 3, none⟩ b3) ⟨g, 4, none⟩ b4) ⟨g, 5, none⟩ b5) ⟨g, 6, none⟩ b6) ⟨g, 7, none⟩ b7) ⟨g, 8, none⟩ b8) ⟨g, 9, none⟩ b9) ⟨g, 10, none⟩ b10) g t #[b0, b1, b2, b3, b4, b5, b6, b7, b8, b9, b10] := h9.set_ 10 b10
  exact h10
def ncC (rs : List Rul) (tu se : Int) : Con := (nmM rs tu se).con ⟨#[]⟩ ⟨#[]⟩ 0
theorem nmM_form (rs : List Rul) (tu se : Int) : (nmB rs tu se = true ∨ nmM rs tu se = ⟨[], [], 0, 0, 0, [], [], []⟩) := by
  cases h : nmB rs tu se
  · exact .inr (nmM_no h)
  · exact .inl rfl
set_option maxHeartbeats 4000000 in
set_option maxRecDepth 100000 in
theorem iNewConsole_is (A : Option Addr) (c : Nat) (rs : List Rul) (hn : rs.length ≤ 1048576) (tu se : Int) (w : World) (hR : Rds 7 Rul.cells w A rs) (hA : A = none → rs = [] ∧ c = 0) (kc : rs.length ≤ c) :
  Calls Try.prog 30 #[.slice A rs.length c, .int .i64 tu, .int .i64 se] w fun e w' => ∃ D0 d0 D1 d1 D2 d2 D3 d3 D4 d4, e = .returned (.tuple #[.agg #[.slice D0 (ncC rs tu se).rules.length d0, .slice D1 (ncC rs tu se).pend.length d1, .int .i64 (ncC rs tu se).turns, .int .i64 (ncC rs tu se).secs, .int .i64 (ncC rs tu se).spk, .slice D2 (ncC rs tu se).wait.length d2, .slice D3 (ncC rs tu se).shares.length d3, .slice D4 (ncC rs tu se).outs.length d4, .string (ncC rs tu se).dur, .string (ncC rs tu se).pen, .int .i64 (ncC rs tu se).cnt], .bool (nmB rs tu se)]) ∧ OwnV w.heap.size 88 7 Rul.cells w' (.slice D0 (ncC rs tu se).rules.length d0) (ncC rs tu se).rules ∧ OwnV w.heap.size 90 3 Que.cells w' (.slice D1 (ncC rs tu se).pend.length d1) (ncC rs tu se).pend ∧ OwnV w.heap.size 3 1 intC w' (.slice D2 (ncC rs tu se).wait.length d2) (ncC rs tu se).wait ∧ OwnV w.heap.size 114 3 Sha.cells w' (.slice D3 (ncC rs tu se).shares.length d3) (ncC rs tu se).shares ∧ OwnV w.heap.size 81 3 Out.cells w' (.slice D4 (ncC rs tu se).outs.length d4) (ncC rs tu se).outs ∧ Apart [.slice D0 (ncC rs tu se).rules.length d0, .slice D1 (ncC rs tu se).pend.length d1, .slice D2 (ncC rs tu se).wait.length d2, .slice D3 (ncC rs tu se).shares.length d3, .slice D4 (ncC rs tu se).outs.length d4] ∧ Below w.heap.size w w' := by
  have HC := fun (W : World) (hW : Rds 7 Rul.cells W A rs) => iNewMeeting_is A c rs hn tu se W hW hA kc
  have HF := nmM_form rs tu se
  clear hA
  unfold ncC
  generalize nmM rs tu se = M at *
  generalize nmB rs tu se = b at *
  simp only [Mee.con]
  cases b
  · obtain rfl : M = ⟨[], [], 0, 0, 0, [], [], []⟩ := HF.resolve_left (by simp)
    clear HF
    simp only [List.length_nil] at HC ⊢
    replace HC := Lib.hid HC
    go_enter Try.func30, Try.ntmps30
    go_upto_region 1 with fail
    have hq1 : Below w.heap.size w (World.alloc w (.cells #[.slice none 0 0, .slice none 0 0, .int .i64 0, .int .i64 0, .int .i64 0, .slice none 0 0, .slice none 0 0, .slice none 0 0, .string ⟨#[]⟩, .string ⟨#[]⟩, .int .i64 0] 62)) := bl1 w _
    have hZ : Blk (World.alloc w (.cells #[.slice none 0 0, .slice none 0 0, .int .i64 0, .int .i64 0, .int .i64 0, .slice none 0 0, .slice none 0 0, .slice none 0 0, .string ⟨#[]⟩, .string ⟨#[]⟩, .int .i64 0] 62)) (w.heap.size) 62 #[.slice none 0 0, .slice none 0 0, .int .i64 0, .int .i64 0, .int .i64 0, .slice none 0 0, .slice none 0 0, .slice none 0 0, .string ⟨#[]⟩, .string ⟨#[]⟩, .int .i64 0] := by repeat (first | exact Blk.new _ _ _ | exact Blk.new2 _ _ _ _ | exact Blk.new3 _ _ _ _ _ | exact Blk.new4 _ _ _ _ _ _ | refine Blk.alloc ?_ _)
    replace hR := hR.below hq1
    generalize World.alloc w (.cells #[.slice none 0 0, .slice none 0 0, .int .i64 0, .int .i64 0, .int .i64 0, .slice none 0 0, .slice none 0 0, .slice none 0 0, .string ⟨#[]⟩, .string ⟨#[]⟩, .int .i64 0] 62) = wX at *
    have HB := hq1
    have z0 := (hZ.cell 0).trans (show _ = some (.slice none 0 0) from rfl)
    have z1 := (hZ.cell 1).trans (show _ = some (.slice none 0 0) from rfl)
    have z2 := (hZ.cell 2).trans (show _ = some (.int .i64 0) from rfl)
    have z3 := (hZ.cell 3).trans (show _ = some (.int .i64 0) from rfl)
    have z4 := (hZ.cell 4).trans (show _ = some (.int .i64 0) from rfl)
    have z5 := (hZ.cell 5).trans (show _ = some (.slice none 0 0) from rfl)
    have z6 := (hZ.cell 6).trans (show _ = some (.slice none 0 0) from rfl)
    have z7 := (hZ.cell 7).trans (show _ = some (.slice none 0 0) from rfl)
    have z8 := (hZ.cell 8).trans (show _ = some (.string ⟨#[]⟩) from rfl)
    have z9 := (hZ.cell 9).trans (show _ = some (.string ⟨#[]⟩) from rfl)
    have z10 := (hZ.cell 10).trans (show _ = some (.int .i64 0) from rfl)
    have hz0' := hZ.lt
    go_wp2_with fail
    refine (HC.out _ (hR.below (by repeat (first | exact Below.refl _ _ | refine Below.alloc ?_ (by first | exact Nat.le_refl _ | (simp <;> omega)) _ | refine Below.setCell ?_ (by first | exact Nat.le_refl _ | (simp <;> omega)) _)))).mono ?_
    rintro e w2 ⟨D0, d0, D1, d1, D2, d2, D3, d3, D4, d4, rfl, O0, O1, O2, O3, O4, ap, hb2⟩
    have hq2 : Below wX.heap.size wX w2 := bth (by repeat (first | exact Below.refl _ _ | refine Below.alloc ?_ (by first | exact Nat.le_refl _ | (simp <;> omega)) _ | refine Below.setCell ?_ (by first | exact Nat.le_refl _ | (simp <;> omega)) _)) hb2
    replace HB := bth HB hq2
    replace hR := hR.below hq2
    replace hZ := hZ.below hq2 hZ.lt
    replace z0 := (hZ.cell 0).trans (show _ = some (.slice none 0 0) from rfl)
    replace z1 := (hZ.cell 1).trans (show _ = some (.slice none 0 0) from rfl)
    replace z2 := (hZ.cell 2).trans (show _ = some (.int .i64 0) from rfl)
    replace z3 := (hZ.cell 3).trans (show _ = some (.int .i64 0) from rfl)
    replace z4 := (hZ.cell 4).trans (show _ = some (.int .i64 0) from rfl)
    replace z5 := (hZ.cell 5).trans (show _ = some (.slice none 0 0) from rfl)
    replace z6 := (hZ.cell 6).trans (show _ = some (.slice none 0 0) from rfl)
    replace z7 := (hZ.cell 7).trans (show _ = some (.slice none 0 0) from rfl)
    replace z8 := (hZ.cell 8).trans (show _ = some (.string ⟨#[]⟩) from rfl)
    replace z9 := (hZ.cell 9).trans (show _ = some (.string ⟨#[]⟩) from rfl)
    replace z10 := (hZ.cell 10).trans (show _ = some (.int .i64 0) from rfl)
    have zq2 := hq2.size
    clear O0 O1 O2 O3 O4 ap
    go_upto_region 2 with fail
    have hq3 : Below w2.heap.size w2 (World.alloc w2 (.cells #[.slice D0 0 d0, .slice D1 0 d1, .int .i64 0, .int .i64 0, .int .i64 0, .slice D2 0 d2, .slice D3 0 d3, .slice D4 0 d4] 40)) := bl1 w2 _
    have hF : Blk (World.alloc w2 (.cells #[.slice D0 0 d0, .slice D1 0 d1, .int .i64 0, .int .i64 0, .int .i64 0, .slice D2 0 d2, .slice D3 0 d3, .slice D4 0 d4] 40)) (w2.heap.size) 40 #[.slice D0 0 d0, .slice D1 0 d1, .int .i64 0, .int .i64 0, .int .i64 0, .slice D2 0 d2, .slice D3 0 d3, .slice D4 0 d4] := by repeat (first | exact Blk.new _ _ _ | exact Blk.new2 _ _ _ _ | exact Blk.new3 _ _ _ _ _ | exact Blk.new4 _ _ _ _ _ _ | refine Blk.alloc ?_ _)
    replace hR := hR.below hq3
    generalize World.alloc w2 (.cells #[.slice D0 0 d0, .slice D1 0 d1, .int .i64 0, .int .i64 0, .int .i64 0, .slice D2 0 d2, .slice D3 0 d3, .slice D4 0 d4] 40) = wF at *
    replace HB := bth HB hq3
    have f0 := (hF.cell 0).trans (show _ = some (.slice D0 0 d0) from rfl)
    have f1 := (hF.cell 1).trans (show _ = some (.slice D1 0 d1) from rfl)
    have f2 := (hF.cell 2).trans (show _ = some (.int .i64 0) from rfl)
    have f3 := (hF.cell 3).trans (show _ = some (.int .i64 0) from rfl)
    have f4 := (hF.cell 4).trans (show _ = some (.int .i64 0) from rfl)
    have f5 := (hF.cell 5).trans (show _ = some (.slice D2 0 d2) from rfl)
    have f6 := (hF.cell 6).trans (show _ = some (.slice D3 0 d3) from rfl)
    have f7 := (hF.cell 7).trans (show _ = some (.slice D4 0 d4) from rfl)
    replace hZ := hZ.below hq3 hZ.lt
    clear z0 z1 z2 z3 z4 z5 z6 z7 z8 z9 z10
    have z0 := (hZ.cell 0).trans (show _ = some (.slice none 0 0) from rfl)
    have z1 := (hZ.cell 1).trans (show _ = some (.slice none 0 0) from rfl)
    have z2 := (hZ.cell 2).trans (show _ = some (.int .i64 0) from rfl)
    have z3 := (hZ.cell 3).trans (show _ = some (.int .i64 0) from rfl)
    have z4 := (hZ.cell 4).trans (show _ = some (.int .i64 0) from rfl)
    have z5 := (hZ.cell 5).trans (show _ = some (.slice none 0 0) from rfl)
    have z6 := (hZ.cell 6).trans (show _ = some (.slice none 0 0) from rfl)
    have z7 := (hZ.cell 7).trans (show _ = some (.slice none 0 0) from rfl)
    have z8 := (hZ.cell 8).trans (show _ = some (.string ⟨#[]⟩) from rfl)
    have z9 := (hZ.cell 9).trans (show _ = some (.string ⟨#[]⟩) from rfl)
    have z10 := (hZ.cell 10).trans (show _ = some (.int .i64 0) from rfl)
    clear hR HC
    have fhZ0 := hZ.frozen 0
    have fhZ1 := hZ.frozen 1
    have fhZ2 := hZ.frozen 2
    have fhZ3 := hZ.frozen 3
    have fhZ4 := hZ.frozen 4
    have fhZ5 := hZ.frozen 5
    have fhZ6 := hZ.frozen 6
    have fhZ7 := hZ.frozen 7
    have fhZ8 := hZ.frozen 8
    have fhZ9 := hZ.frozen 9
    have fhZ10 := hZ.frozen 10
    have yhF := hF.lt
    have yhZ := hZ.lt
    go_wp2
    clear f0 f1 f2 f3 f4 f5 f6 f7 z0 z1 z2 z3 z4 z5 z6 z7 z8 z9 z10
    replace HB : Below w.heap.size w (World.setCell (World.setCell (World.setCell (World.setCell (World.setCell (World.setCell (World.setCell (World.setCell (World.setCell (World.setCell (World.setCell wF ⟨w.heap.size, 0, none⟩ (.slice none 0 0)) ⟨w.heap.size, 1, none⟩ (.slice none 0 0)) ⟨w.heap.size, 2, none⟩ (.int .i64 0)) ⟨w.heap.size, 3, none⟩ (.int .i64 0)) ⟨w.heap.size, 4, none⟩ (.int .i64 0)) ⟨w.heap.size, 5, none⟩ (.slice none 0 0)) ⟨w.heap.size, 6, none⟩ (.slice none 0 0)) ⟨w.heap.size, 7, none⟩ (.slice none 0 0)) ⟨w.heap.size, 8, none⟩ (.string ⟨#[]⟩)) ⟨w.heap.size, 9, none⟩ (.string ⟨#[]⟩)) ⟨w.heap.size, 10, none⟩ (.int .i64 0)) := (((((((((((HB.setCell (by show w.heap.size ≤ w.heap.size; omega) (.slice none 0 0) (p := ⟨w.heap.size, 0, none⟩)).setCell (by show w.heap.size ≤ w.heap.size; omega) (.slice none 0 0) (p := ⟨w.heap.size, 1, none⟩)).setCell (by show w.heap.size ≤ w.heap.size; omega) (.int .i64 0) (p := ⟨w.heap.size, 2, none⟩)).setCell (by show w.heap.size ≤ w.heap.size; omega) (.int .i64 0) (p := ⟨w.heap.size, 3, none⟩)).setCell (by show w.heap.size ≤ w.heap.size; omega) (.int .i64 0) (p := ⟨w.heap.size, 4, none⟩)).setCell (by show w.heap.size ≤ w.heap.size; omega) (.slice none 0 0) (p := ⟨w.heap.size, 5, none⟩)).setCell (by show w.heap.size ≤ w.heap.size; omega) (.slice none 0 0) (p := ⟨w.heap.size, 6, none⟩)).setCell (by show w.heap.size ≤ w.heap.size; omega) (.slice none 0 0) (p := ⟨w.heap.size, 7, none⟩)).setCell (by show w.heap.size ≤ w.heap.size; omega) (.string ⟨#[]⟩) (p := ⟨w.heap.size, 8, none⟩)).setCell (by show w.heap.size ≤ w.heap.size; omega) (.string ⟨#[]⟩) (p := ⟨w.heap.size, 9, none⟩)).setCell (by show w.heap.size ≤ w.heap.size; omega) (.int .i64 0) (p := ⟨w.heap.size, 10, none⟩))
    replace hF := (((((((((((hF.far' (p := ⟨w.heap.size, 0, none⟩) (by show _ ≠ w.heap.size; omega) (.slice none 0 0)).far' (p := ⟨w.heap.size, 1, none⟩) (by show _ ≠ w.heap.size; omega) (.slice none 0 0)).far' (p := ⟨w.heap.size, 2, none⟩) (by show _ ≠ w.heap.size; omega) (.int .i64 0)).far' (p := ⟨w.heap.size, 3, none⟩) (by show _ ≠ w.heap.size; omega) (.int .i64 0)).far' (p := ⟨w.heap.size, 4, none⟩) (by show _ ≠ w.heap.size; omega) (.int .i64 0)).far' (p := ⟨w.heap.size, 5, none⟩) (by show _ ≠ w.heap.size; omega) (.slice none 0 0)).far' (p := ⟨w.heap.size, 6, none⟩) (by show _ ≠ w.heap.size; omega) (.slice none 0 0)).far' (p := ⟨w.heap.size, 7, none⟩) (by show _ ≠ w.heap.size; omega) (.slice none 0 0)).far' (p := ⟨w.heap.size, 8, none⟩) (by show _ ≠ w.heap.size; omega) (.string ⟨#[]⟩)).far' (p := ⟨w.heap.size, 9, none⟩) (by show _ ≠ w.heap.size; omega) (.string ⟨#[]⟩)).far' (p := ⟨w.heap.size, 10, none⟩) (by show _ ≠ w.heap.size; omega) (.int .i64 0))
    replace hZ : Blk (World.setCell (World.setCell (World.setCell (World.setCell (World.setCell (World.setCell (World.setCell (World.setCell (World.setCell (World.setCell (World.setCell wF ⟨w.heap.size, 0, none⟩ (.slice none 0 0)) ⟨w.heap.size, 1, none⟩ (.slice none 0 0)) ⟨w.heap.size, 2, none⟩ (.int .i64 0)) ⟨w.heap.size, 3, none⟩ (.int .i64 0)) ⟨w.heap.size, 4, none⟩ (.int .i64 0)) ⟨w.heap.size, 5, none⟩ (.slice none 0 0)) ⟨w.heap.size, 6, none⟩ (.slice none 0 0)) ⟨w.heap.size, 7, none⟩ (.slice none 0 0)) ⟨w.heap.size, 8, none⟩ (.string ⟨#[]⟩)) ⟨w.heap.size, 9, none⟩ (.string ⟨#[]⟩)) ⟨w.heap.size, 10, none⟩ (.int .i64 0)) (w.heap.size) 62 #[.slice none 0 0, .slice none 0 0, .int .i64 0, .int .i64 0, .int .i64 0, .slice none 0 0, .slice none 0 0, .slice none 0 0, .string ⟨#[]⟩, .string ⟨#[]⟩, .int .i64 0] := (blk_set11 hZ)
    have szW9 : ((World.setCell (World.setCell (World.setCell (World.setCell (World.setCell (World.setCell (World.setCell (World.setCell (World.setCell (World.setCell (World.setCell wF ⟨w.heap.size, 0, none⟩ (.slice none 0 0)) ⟨w.heap.size, 1, none⟩ (.slice none 0 0)) ⟨w.heap.size, 2, none⟩ (.int .i64 0)) ⟨w.heap.size, 3, none⟩ (.int .i64 0)) ⟨w.heap.size, 4, none⟩ (.int .i64 0)) ⟨w.heap.size, 5, none⟩ (.slice none 0 0)) ⟨w.heap.size, 6, none⟩ (.slice none 0 0)) ⟨w.heap.size, 7, none⟩ (.slice none 0 0)) ⟨w.heap.size, 8, none⟩ (.string ⟨#[]⟩)) ⟨w.heap.size, 9, none⟩ (.string ⟨#[]⟩)) ⟨w.heap.size, 10, none⟩ (.int .i64 0))).heap.size = wF.heap.size := by simp [World.setCell]
    generalize World.setCell (World.setCell (World.setCell (World.setCell (World.setCell (World.setCell (World.setCell (World.setCell (World.setCell (World.setCell (World.setCell wF ⟨w.heap.size, 0, none⟩ (.slice none 0 0)) ⟨w.heap.size, 1, none⟩ (.slice none 0 0)) ⟨w.heap.size, 2, none⟩ (.int .i64 0)) ⟨w.heap.size, 3, none⟩ (.int .i64 0)) ⟨w.heap.size, 4, none⟩ (.int .i64 0)) ⟨w.heap.size, 5, none⟩ (.slice none 0 0)) ⟨w.heap.size, 6, none⟩ (.slice none 0 0)) ⟨w.heap.size, 7, none⟩ (.slice none 0 0)) ⟨w.heap.size, 8, none⟩ (.string ⟨#[]⟩)) ⟨w.heap.size, 9, none⟩ (.string ⟨#[]⟩)) ⟨w.heap.size, 10, none⟩ (.int .i64 0) = W9 at *
    have f0 := (hF.cell 0).trans (show _ = some (.slice D0 0 d0) from rfl)
    have f1 := (hF.cell 1).trans (show _ = some (.slice D1 0 d1) from rfl)
    have f2 := (hF.cell 2).trans (show _ = some (.int .i64 0) from rfl)
    have f3 := (hF.cell 3).trans (show _ = some (.int .i64 0) from rfl)
    have f4 := (hF.cell 4).trans (show _ = some (.int .i64 0) from rfl)
    have f5 := (hF.cell 5).trans (show _ = some (.slice D2 0 d2) from rfl)
    have f6 := (hF.cell 6).trans (show _ = some (.slice D3 0 d3) from rfl)
    have f7 := (hF.cell 7).trans (show _ = some (.slice D4 0 d4) from rfl)
    have z0 := (hZ.cell 0).trans (show _ = some (.slice none 0 0) from rfl)
    have z1 := (hZ.cell 1).trans (show _ = some (.slice none 0 0) from rfl)
    have z2 := (hZ.cell 2).trans (show _ = some (.int .i64 0) from rfl)
    have z3 := (hZ.cell 3).trans (show _ = some (.int .i64 0) from rfl)
    have z4 := (hZ.cell 4).trans (show _ = some (.int .i64 0) from rfl)
    have z5 := (hZ.cell 5).trans (show _ = some (.slice none 0 0) from rfl)
    have z6 := (hZ.cell 6).trans (show _ = some (.slice none 0 0) from rfl)
    have z7 := (hZ.cell 7).trans (show _ = some (.slice none 0 0) from rfl)
    have z8 := (hZ.cell 8).trans (show _ = some (.string ⟨#[]⟩) from rfl)
    have z9 := (hZ.cell 9).trans (show _ = some (.string ⟨#[]⟩) from rfl)
    have z10 := (hZ.cell 10).trans (show _ = some (.int .i64 0) from rfl)
    refine bodyPost_ret (v := .tuple #[.agg #[.slice none 0 0, .slice none 0 0, .int .i64 0, .int .i64 0, .int .i64 0, .slice none 0 0, .slice none 0 0, .slice none 0 0, .string ⟨#[]⟩, .string ⟨#[]⟩, .int .i64 0], .bool false]) (by simp [results, Try.results30, go_sem, z0, z1, z2, z3, z4, z5, z6, z7, z8, z9, z10]) rfl ?_
    exact ⟨none, 0, none, 0, none, 0, none, 0, none, 0, rfl, OwnV.nil, OwnV.nil, OwnV.nil, OwnV.nil, OwnV.nil, apart_one5 _, HB⟩
  · clear HF
    replace HC := Lib.hid HC
    go_enter Try.func30, Try.ntmps30
    go_upto_region 1 with fail
    have hq1 : Below w.heap.size w (World.alloc w (.cells #[.slice none 0 0, .slice none 0 0, .int .i64 0, .int .i64 0, .int .i64 0, .slice none 0 0, .slice none 0 0, .slice none 0 0, .string ⟨#[]⟩, .string ⟨#[]⟩, .int .i64 0] 62)) := bl1 w _
    have hZ : Blk (World.alloc w (.cells #[.slice none 0 0, .slice none 0 0, .int .i64 0, .int .i64 0, .int .i64 0, .slice none 0 0, .slice none 0 0, .slice none 0 0, .string ⟨#[]⟩, .string ⟨#[]⟩, .int .i64 0] 62)) (w.heap.size) 62 #[.slice none 0 0, .slice none 0 0, .int .i64 0, .int .i64 0, .int .i64 0, .slice none 0 0, .slice none 0 0, .slice none 0 0, .string ⟨#[]⟩, .string ⟨#[]⟩, .int .i64 0] := by repeat (first | exact Blk.new _ _ _ | exact Blk.new2 _ _ _ _ | exact Blk.new3 _ _ _ _ _ | exact Blk.new4 _ _ _ _ _ _ | refine Blk.alloc ?_ _)
    replace hR := hR.below hq1
    generalize World.alloc w (.cells #[.slice none 0 0, .slice none 0 0, .int .i64 0, .int .i64 0, .int .i64 0, .slice none 0 0, .slice none 0 0, .slice none 0 0, .string ⟨#[]⟩, .string ⟨#[]⟩, .int .i64 0] 62) = wX at *
    have HB := hq1
    have z0 := (hZ.cell 0).trans (show _ = some (.slice none 0 0) from rfl)
    have z1 := (hZ.cell 1).trans (show _ = some (.slice none 0 0) from rfl)
    have z2 := (hZ.cell 2).trans (show _ = some (.int .i64 0) from rfl)
    have z3 := (hZ.cell 3).trans (show _ = some (.int .i64 0) from rfl)
    have z4 := (hZ.cell 4).trans (show _ = some (.int .i64 0) from rfl)
    have z5 := (hZ.cell 5).trans (show _ = some (.slice none 0 0) from rfl)
    have z6 := (hZ.cell 6).trans (show _ = some (.slice none 0 0) from rfl)
    have z7 := (hZ.cell 7).trans (show _ = some (.slice none 0 0) from rfl)
    have z8 := (hZ.cell 8).trans (show _ = some (.string ⟨#[]⟩) from rfl)
    have z9 := (hZ.cell 9).trans (show _ = some (.string ⟨#[]⟩) from rfl)
    have z10 := (hZ.cell 10).trans (show _ = some (.int .i64 0) from rfl)
    have hz0' := hZ.lt
    go_wp2_with fail
    refine (HC.out _ (hR.below (by repeat (first | exact Below.refl _ _ | refine Below.alloc ?_ (by first | exact Nat.le_refl _ | (simp <;> omega)) _ | refine Below.setCell ?_ (by first | exact Nat.le_refl _ | (simp <;> omega)) _)))).mono ?_
    rintro e w2 ⟨D0, d0, D1, d1, D2, d2, D3, d3, D4, d4, rfl, O0, O1, O2, O3, O4, ap, hb2⟩
    have hq2 : Below wX.heap.size wX w2 := bth (by repeat (first | exact Below.refl _ _ | refine Below.alloc ?_ (by first | exact Nat.le_refl _ | (simp <;> omega)) _ | refine Below.setCell ?_ (by first | exact Nat.le_refl _ | (simp <;> omega)) _)) hb2
    replace HB := bth HB hq2
    replace hR := hR.below hq2
    replace hZ := hZ.below hq2 hZ.lt
    replace z0 := (hZ.cell 0).trans (show _ = some (.slice none 0 0) from rfl)
    replace z1 := (hZ.cell 1).trans (show _ = some (.slice none 0 0) from rfl)
    replace z2 := (hZ.cell 2).trans (show _ = some (.int .i64 0) from rfl)
    replace z3 := (hZ.cell 3).trans (show _ = some (.int .i64 0) from rfl)
    replace z4 := (hZ.cell 4).trans (show _ = some (.int .i64 0) from rfl)
    replace z5 := (hZ.cell 5).trans (show _ = some (.slice none 0 0) from rfl)
    replace z6 := (hZ.cell 6).trans (show _ = some (.slice none 0 0) from rfl)
    replace z7 := (hZ.cell 7).trans (show _ = some (.slice none 0 0) from rfl)
    replace z8 := (hZ.cell 8).trans (show _ = some (.string ⟨#[]⟩) from rfl)
    replace z9 := (hZ.cell 9).trans (show _ = some (.string ⟨#[]⟩) from rfl)
    replace z10 := (hZ.cell 10).trans (show _ = some (.int .i64 0) from rfl)
    have zq2 := hq2.size
    go_upto_region 2 with fail
    have hq3 : Below w2.heap.size w2 (World.alloc w2 (.cells #[.slice D0 M.rules.length d0, .slice D1 M.pend.length d1, .int .i64 M.turns, .int .i64 M.secs, .int .i64 M.spk, .slice D2 M.wait.length d2, .slice D3 M.shares.length d3, .slice D4 M.outs.length d4] 40)) := bl1 w2 _
    have hF : Blk (World.alloc w2 (.cells #[.slice D0 M.rules.length d0, .slice D1 M.pend.length d1, .int .i64 M.turns, .int .i64 M.secs, .int .i64 M.spk, .slice D2 M.wait.length d2, .slice D3 M.shares.length d3, .slice D4 M.outs.length d4] 40)) (w2.heap.size) 40 #[.slice D0 M.rules.length d0, .slice D1 M.pend.length d1, .int .i64 M.turns, .int .i64 M.secs, .int .i64 M.spk, .slice D2 M.wait.length d2, .slice D3 M.shares.length d3, .slice D4 M.outs.length d4] := by repeat (first | exact Blk.new _ _ _ | exact Blk.new2 _ _ _ _ | exact Blk.new3 _ _ _ _ _ | exact Blk.new4 _ _ _ _ _ _ | refine Blk.alloc ?_ _)
    replace hR := hR.below hq3
    replace O0 := O0.later hq3
    replace O1 := O1.later hq3
    replace O2 := O2.later hq3
    replace O3 := O3.later hq3
    replace O4 := O4.later hq3
    generalize World.alloc w2 (.cells #[.slice D0 M.rules.length d0, .slice D1 M.pend.length d1, .int .i64 M.turns, .int .i64 M.secs, .int .i64 M.spk, .slice D2 M.wait.length d2, .slice D3 M.shares.length d3, .slice D4 M.outs.length d4] 40) = wF at *
    replace HB := bth HB hq3
    have f0 := (hF.cell 0).trans (show _ = some (.slice D0 M.rules.length d0) from rfl)
    have f1 := (hF.cell 1).trans (show _ = some (.slice D1 M.pend.length d1) from rfl)
    have f2 := (hF.cell 2).trans (show _ = some (.int .i64 M.turns) from rfl)
    have f3 := (hF.cell 3).trans (show _ = some (.int .i64 M.secs) from rfl)
    have f4 := (hF.cell 4).trans (show _ = some (.int .i64 M.spk) from rfl)
    have f5 := (hF.cell 5).trans (show _ = some (.slice D2 M.wait.length d2) from rfl)
    have f6 := (hF.cell 6).trans (show _ = some (.slice D3 M.shares.length d3) from rfl)
    have f7 := (hF.cell 7).trans (show _ = some (.slice D4 M.outs.length d4) from rfl)
    replace hZ := hZ.below hq3 hZ.lt
    clear z0 z1 z2 z3 z4 z5 z6 z7 z8 z9 z10
    have z0 := (hZ.cell 0).trans (show _ = some (.slice none 0 0) from rfl)
    have z1 := (hZ.cell 1).trans (show _ = some (.slice none 0 0) from rfl)
    have z2 := (hZ.cell 2).trans (show _ = some (.int .i64 0) from rfl)
    have z3 := (hZ.cell 3).trans (show _ = some (.int .i64 0) from rfl)
    have z4 := (hZ.cell 4).trans (show _ = some (.int .i64 0) from rfl)
    have z5 := (hZ.cell 5).trans (show _ = some (.slice none 0 0) from rfl)
    have z6 := (hZ.cell 6).trans (show _ = some (.slice none 0 0) from rfl)
    have z7 := (hZ.cell 7).trans (show _ = some (.slice none 0 0) from rfl)
    have z8 := (hZ.cell 8).trans (show _ = some (.string ⟨#[]⟩) from rfl)
    have z9 := (hZ.cell 9).trans (show _ = some (.string ⟨#[]⟩) from rfl)
    have z10 := (hZ.cell 10).trans (show _ = some (.int .i64 0) from rfl)
    clear hR HC
    have fhZ0 := hZ.frozen 0
    have fhZ1 := hZ.frozen 1
    have fhZ2 := hZ.frozen 2
    have fhZ3 := hZ.frozen 3
    have fhZ4 := hZ.frozen 4
    have fhZ5 := hZ.frozen 5
    have fhZ6 := hZ.frozen 6
    have fhZ7 := hZ.frozen 7
    have fhZ8 := hZ.frozen 8
    have fhZ9 := hZ.frozen 9
    have fhZ10 := hZ.frozen 10
    have yhF := hF.lt
    have yhZ := hZ.lt
    go_wp2
    clear f0 f1 f2 f3 f4 f5 f6 f7 z0 z1 z2 z3 z4 z5 z6 z7 z8 z9 z10
    replace HB : Below w.heap.size w (World.setCell (World.setCell (World.setCell (World.setCell (World.setCell (World.setCell (World.setCell (World.setCell (World.setCell (World.setCell (World.setCell wF ⟨w.heap.size, 0, none⟩ (.slice D0 M.rules.length d0)) ⟨w.heap.size, 1, none⟩ (.slice D1 M.pend.length d1)) ⟨w.heap.size, 2, none⟩ (.int .i64 M.turns)) ⟨w.heap.size, 3, none⟩ (.int .i64 M.secs)) ⟨w.heap.size, 4, none⟩ (.int .i64 M.spk)) ⟨w.heap.size, 5, none⟩ (.slice D2 M.wait.length d2)) ⟨w.heap.size, 6, none⟩ (.slice D3 M.shares.length d3)) ⟨w.heap.size, 7, none⟩ (.slice D4 M.outs.length d4)) ⟨w.heap.size, 8, none⟩ (.string ⟨#[]⟩)) ⟨w.heap.size, 9, none⟩ (.string ⟨#[]⟩)) ⟨w.heap.size, 10, none⟩ (.int .i64 0)) := (((((((((((HB.setCell (by show w.heap.size ≤ w.heap.size; omega) (.slice D0 M.rules.length d0) (p := ⟨w.heap.size, 0, none⟩)).setCell (by show w.heap.size ≤ w.heap.size; omega) (.slice D1 M.pend.length d1) (p := ⟨w.heap.size, 1, none⟩)).setCell (by show w.heap.size ≤ w.heap.size; omega) (.int .i64 M.turns) (p := ⟨w.heap.size, 2, none⟩)).setCell (by show w.heap.size ≤ w.heap.size; omega) (.int .i64 M.secs) (p := ⟨w.heap.size, 3, none⟩)).setCell (by show w.heap.size ≤ w.heap.size; omega) (.int .i64 M.spk) (p := ⟨w.heap.size, 4, none⟩)).setCell (by show w.heap.size ≤ w.heap.size; omega) (.slice D2 M.wait.length d2) (p := ⟨w.heap.size, 5, none⟩)).setCell (by show w.heap.size ≤ w.heap.size; omega) (.slice D3 M.shares.length d3) (p := ⟨w.heap.size, 6, none⟩)).setCell (by show w.heap.size ≤ w.heap.size; omega) (.slice D4 M.outs.length d4) (p := ⟨w.heap.size, 7, none⟩)).setCell (by show w.heap.size ≤ w.heap.size; omega) (.string ⟨#[]⟩) (p := ⟨w.heap.size, 8, none⟩)).setCell (by show w.heap.size ≤ w.heap.size; omega) (.string ⟨#[]⟩) (p := ⟨w.heap.size, 9, none⟩)).setCell (by show w.heap.size ≤ w.heap.size; omega) (.int .i64 0) (p := ⟨w.heap.size, 10, none⟩))
    replace hF := (((((((((((hF.far' (p := ⟨w.heap.size, 0, none⟩) (by show _ ≠ w.heap.size; omega) (.slice D0 M.rules.length d0)).far' (p := ⟨w.heap.size, 1, none⟩) (by show _ ≠ w.heap.size; omega) (.slice D1 M.pend.length d1)).far' (p := ⟨w.heap.size, 2, none⟩) (by show _ ≠ w.heap.size; omega) (.int .i64 M.turns)).far' (p := ⟨w.heap.size, 3, none⟩) (by show _ ≠ w.heap.size; omega) (.int .i64 M.secs)).far' (p := ⟨w.heap.size, 4, none⟩) (by show _ ≠ w.heap.size; omega) (.int .i64 M.spk)).far' (p := ⟨w.heap.size, 5, none⟩) (by show _ ≠ w.heap.size; omega) (.slice D2 M.wait.length d2)).far' (p := ⟨w.heap.size, 6, none⟩) (by show _ ≠ w.heap.size; omega) (.slice D3 M.shares.length d3)).far' (p := ⟨w.heap.size, 7, none⟩) (by show _ ≠ w.heap.size; omega) (.slice D4 M.outs.length d4)).far' (p := ⟨w.heap.size, 8, none⟩) (by show _ ≠ w.heap.size; omega) (.string ⟨#[]⟩)).far' (p := ⟨w.heap.size, 9, none⟩) (by show _ ≠ w.heap.size; omega) (.string ⟨#[]⟩)).far' (p := ⟨w.heap.size, 10, none⟩) (by show _ ≠ w.heap.size; omega) (.int .i64 0))
    replace hZ : Blk (World.setCell (World.setCell (World.setCell (World.setCell (World.setCell (World.setCell (World.setCell (World.setCell (World.setCell (World.setCell (World.setCell wF ⟨w.heap.size, 0, none⟩ (.slice D0 M.rules.length d0)) ⟨w.heap.size, 1, none⟩ (.slice D1 M.pend.length d1)) ⟨w.heap.size, 2, none⟩ (.int .i64 M.turns)) ⟨w.heap.size, 3, none⟩ (.int .i64 M.secs)) ⟨w.heap.size, 4, none⟩ (.int .i64 M.spk)) ⟨w.heap.size, 5, none⟩ (.slice D2 M.wait.length d2)) ⟨w.heap.size, 6, none⟩ (.slice D3 M.shares.length d3)) ⟨w.heap.size, 7, none⟩ (.slice D4 M.outs.length d4)) ⟨w.heap.size, 8, none⟩ (.string ⟨#[]⟩)) ⟨w.heap.size, 9, none⟩ (.string ⟨#[]⟩)) ⟨w.heap.size, 10, none⟩ (.int .i64 0)) (w.heap.size) 62 #[.slice D0 M.rules.length d0, .slice D1 M.pend.length d1, .int .i64 M.turns, .int .i64 M.secs, .int .i64 M.spk, .slice D2 M.wait.length d2, .slice D3 M.shares.length d3, .slice D4 M.outs.length d4, .string ⟨#[]⟩, .string ⟨#[]⟩, .int .i64 0] := (blk_set11 hZ)
    have gRW9 : World.grownBy wF (World.setCell (World.setCell (World.setCell (World.setCell (World.setCell (World.setCell (World.setCell (World.setCell (World.setCell (World.setCell (World.setCell wF ⟨w.heap.size, 0, none⟩ (.slice D0 M.rules.length d0)) ⟨w.heap.size, 1, none⟩ (.slice D1 M.pend.length d1)) ⟨w.heap.size, 2, none⟩ (.int .i64 M.turns)) ⟨w.heap.size, 3, none⟩ (.int .i64 M.secs)) ⟨w.heap.size, 4, none⟩ (.int .i64 M.spk)) ⟨w.heap.size, 5, none⟩ (.slice D2 M.wait.length d2)) ⟨w.heap.size, 6, none⟩ (.slice D3 M.shares.length d3)) ⟨w.heap.size, 7, none⟩ (.slice D4 M.outs.length d4)) ⟨w.heap.size, 8, none⟩ (.string ⟨#[]⟩)) ⟨w.heap.size, 9, none⟩ (.string ⟨#[]⟩)) ⟨w.heap.size, 10, none⟩ (.int .i64 0)) (some (w.heap.size)) := (grown_set (j := 10) (grown_set (j := 9) (grown_set (j := 8) (grown_set (j := 7) (grown_set (j := 6) (grown_set (j := 5) (grown_set (j := 4) (grown_set (j := 3) (grown_set (j := 2) (grown_set (j := 1) (grown_set (j := 0) (grown_refl wF (some (w.heap.size))) (.slice D0 M.rules.length d0)) (.slice D1 M.pend.length d1)) (.int .i64 M.turns)) (.int .i64 M.secs)) (.int .i64 M.spk)) (.slice D2 M.wait.length d2)) (.slice D3 M.shares.length d3)) (.slice D4 M.outs.length d4)) (.string ⟨#[]⟩)) (.string ⟨#[]⟩)) (.int .i64 0))
    have szW9 : ((World.setCell (World.setCell (World.setCell (World.setCell (World.setCell (World.setCell (World.setCell (World.setCell (World.setCell (World.setCell (World.setCell wF ⟨w.heap.size, 0, none⟩ (.slice D0 M.rules.length d0)) ⟨w.heap.size, 1, none⟩ (.slice D1 M.pend.length d1)) ⟨w.heap.size, 2, none⟩ (.int .i64 M.turns)) ⟨w.heap.size, 3, none⟩ (.int .i64 M.secs)) ⟨w.heap.size, 4, none⟩ (.int .i64 M.spk)) ⟨w.heap.size, 5, none⟩ (.slice D2 M.wait.length d2)) ⟨w.heap.size, 6, none⟩ (.slice D3 M.shares.length d3)) ⟨w.heap.size, 7, none⟩ (.slice D4 M.outs.length d4)) ⟨w.heap.size, 8, none⟩ (.string ⟨#[]⟩)) ⟨w.heap.size, 9, none⟩ (.string ⟨#[]⟩)) ⟨w.heap.size, 10, none⟩ (.int .i64 0))).heap.size = wF.heap.size := by simp [World.setCell]
    generalize World.setCell (World.setCell (World.setCell (World.setCell (World.setCell (World.setCell (World.setCell (World.setCell (World.setCell (World.setCell (World.setCell wF ⟨w.heap.size, 0, none⟩ (.slice D0 M.rules.length d0)) ⟨w.heap.size, 1, none⟩ (.slice D1 M.pend.length d1)) ⟨w.heap.size, 2, none⟩ (.int .i64 M.turns)) ⟨w.heap.size, 3, none⟩ (.int .i64 M.secs)) ⟨w.heap.size, 4, none⟩ (.int .i64 M.spk)) ⟨w.heap.size, 5, none⟩ (.slice D2 M.wait.length d2)) ⟨w.heap.size, 6, none⟩ (.slice D3 M.shares.length d3)) ⟨w.heap.size, 7, none⟩ (.slice D4 M.outs.length d4)) ⟨w.heap.size, 8, none⟩ (.string ⟨#[]⟩)) ⟨w.heap.size, 9, none⟩ (.string ⟨#[]⟩)) ⟨w.heap.size, 10, none⟩ (.int .i64 0) = W9 at *
    replace O0 := O0.kept gRW9 (fun k hk e => by have h1 := (O0.lt k hk); have h2 : k = w.heap.size := (Option.some.inj e); first | (clear gRW9; omega) | exact absurd h2 (neO0 k hk))
    replace O1 := O1.kept gRW9 (fun k hk e => by have h1 := (O1.lt k hk); have h2 : k = w.heap.size := (Option.some.inj e); first | (clear gRW9; omega) | exact absurd h2 (neO1 k hk))
    replace O2 := O2.kept gRW9 (fun k hk e => by have h1 := (O2.lt k hk); have h2 : k = w.heap.size := (Option.some.inj e); first | (clear gRW9; omega) | exact absurd h2 (neO2 k hk))
    replace O3 := O3.kept gRW9 (fun k hk e => by have h1 := (O3.lt k hk); have h2 : k = w.heap.size := (Option.some.inj e); first | (clear gRW9; omega) | exact absurd h2 (neO3 k hk))
    replace O4 := O4.kept gRW9 (fun k hk e => by have h1 := (O4.lt k hk); have h2 : k = w.heap.size := (Option.some.inj e); first | (clear gRW9; omega) | exact absurd h2 (neO4 k hk))
    have f0 := (hF.cell 0).trans (show _ = some (.slice D0 M.rules.length d0) from rfl)
    have f1 := (hF.cell 1).trans (show _ = some (.slice D1 M.pend.length d1) from rfl)
    have f2 := (hF.cell 2).trans (show _ = some (.int .i64 M.turns) from rfl)
    have f3 := (hF.cell 3).trans (show _ = some (.int .i64 M.secs) from rfl)
    have f4 := (hF.cell 4).trans (show _ = some (.int .i64 M.spk) from rfl)
    have f5 := (hF.cell 5).trans (show _ = some (.slice D2 M.wait.length d2) from rfl)
    have f6 := (hF.cell 6).trans (show _ = some (.slice D3 M.shares.length d3) from rfl)
    have f7 := (hF.cell 7).trans (show _ = some (.slice D4 M.outs.length d4) from rfl)
    have z0 := (hZ.cell 0).trans (show _ = some (.slice D0 M.rules.length d0) from rfl)
    have z1 := (hZ.cell 1).trans (show _ = some (.slice D1 M.pend.length d1) from rfl)
    have z2 := (hZ.cell 2).trans (show _ = some (.int .i64 M.turns) from rfl)
    have z3 := (hZ.cell 3).trans (show _ = some (.int .i64 M.secs) from rfl)
    have z4 := (hZ.cell 4).trans (show _ = some (.int .i64 M.spk) from rfl)
    have z5 := (hZ.cell 5).trans (show _ = some (.slice D2 M.wait.length d2) from rfl)
    have z6 := (hZ.cell 6).trans (show _ = some (.slice D3 M.shares.length d3) from rfl)
    have z7 := (hZ.cell 7).trans (show _ = some (.slice D4 M.outs.length d4) from rfl)
    have z8 := (hZ.cell 8).trans (show _ = some (.string ⟨#[]⟩) from rfl)
    have z9 := (hZ.cell 9).trans (show _ = some (.string ⟨#[]⟩) from rfl)
    have z10 := (hZ.cell 10).trans (show _ = some (.int .i64 0) from rfl)
    refine bodyPost_ret (v := .tuple #[.agg #[.slice D0 M.rules.length d0, .slice D1 M.pend.length d1, .int .i64 M.turns, .int .i64 M.secs, .int .i64 M.spk, .slice D2 M.wait.length d2, .slice D3 M.shares.length d3, .slice D4 M.outs.length d4, .string ⟨#[]⟩, .string ⟨#[]⟩, .int .i64 0], .bool true]) (by simp [results, Try.results30, go_sem, z0, z1, z2, z3, z4, z5, z6, z7, z8, z9, z10]) rfl ?_
    exact ⟨D0, d0, D1, d1, D2, d2, D3, d3, D4, d4, rfl, O0.base (by omega), O1.base (by omega), O2.base (by omega), O3.base (by omega), O4.base (by omega), ap, HB⟩
set_option maxHeartbeats 4000000 in
set_option maxRecDepth 100000 in
theorem sNewConsole_is (A : Option Addr) (c : Nat) (rs : List Rul) (hn : rs.length ≤ 1048576) (tu se : Int) (w : World) (hR : Rds 7 Rul.cells w A rs) (hA : A = none → rs = [] ∧ c = 0) (kc : rs.length ≤ c) :
  Calls Try.prog 29 #[.slice A rs.length c, .int .i64 tu, .int .i64 se] w fun e w' => ∃ D0 d0 D1 d1 D2 d2 D3 d3 D4 d4, e = .returned (.tuple #[.agg #[.slice D0 (ncC rs tu se).rules.length d0, .slice D1 (ncC rs tu se).pend.length d1, .int .i64 (ncC rs tu se).turns, .int .i64 (ncC rs tu se).secs, .int .i64 (ncC rs tu se).spk, .slice D2 (ncC rs tu se).wait.length d2, .slice D3 (ncC rs tu se).shares.length d3, .slice D4 (ncC rs tu se).outs.length d4, .string (ncC rs tu se).dur, .string (ncC rs tu se).pen, .int .i64 (ncC rs tu se).cnt], .bool (nmB rs tu se)]) ∧ OwnV w.heap.size 88 7 Rul.cells w' (.slice D0 (ncC rs tu se).rules.length d0) (ncC rs tu se).rules ∧ OwnV w.heap.size 90 3 Que.cells w' (.slice D1 (ncC rs tu se).pend.length d1) (ncC rs tu se).pend ∧ OwnV w.heap.size 3 1 intC w' (.slice D2 (ncC rs tu se).wait.length d2) (ncC rs tu se).wait ∧ OwnV w.heap.size 114 3 Sha.cells w' (.slice D3 (ncC rs tu se).shares.length d3) (ncC rs tu se).shares ∧ OwnV w.heap.size 81 3 Out.cells w' (.slice D4 (ncC rs tu se).outs.length d4) (ncC rs tu se).outs ∧ Apart [.slice D0 (ncC rs tu se).rules.length d0, .slice D1 (ncC rs tu se).pend.length d1, .slice D2 (ncC rs tu se).wait.length d2, .slice D3 (ncC rs tu se).shares.length d3, .slice D4 (ncC rs tu se).outs.length d4] ∧ Below w.heap.size w w' := by
  have HC := fun (W : World) (hW : Rds 7 Rul.cells W A rs) => sNewMeeting_is A c rs hn tu se W hW hA kc
  have HF := nmM_form rs tu se
  clear hA
  unfold ncC
  generalize nmM rs tu se = M at *
  generalize nmB rs tu se = b at *
  simp only [Mee.con]
  cases b
  · obtain rfl : M = ⟨[], [], 0, 0, 0, [], [], []⟩ := HF.resolve_left (by simp)
    clear HF
    simp only [List.length_nil] at HC ⊢
    replace HC := Lib.hid HC
    go_enter Try.func29, Try.ntmps29
    go_upto_region 1 with fail
    have hq1 : Below w.heap.size w (World.alloc w (.cells #[.slice none 0 0, .slice none 0 0, .int .i64 0, .int .i64 0, .int .i64 0, .slice none 0 0, .slice none 0 0, .slice none 0 0, .string ⟨#[]⟩, .string ⟨#[]⟩, .int .i64 0] 62)) := bl1 w _
    have hZ : Blk (World.alloc w (.cells #[.slice none 0 0, .slice none 0 0, .int .i64 0, .int .i64 0, .int .i64 0, .slice none 0 0, .slice none 0 0, .slice none 0 0, .string ⟨#[]⟩, .string ⟨#[]⟩, .int .i64 0] 62)) (w.heap.size) 62 #[.slice none 0 0, .slice none 0 0, .int .i64 0, .int .i64 0, .int .i64 0, .slice none 0 0, .slice none 0 0, .slice none 0 0, .string ⟨#[]⟩, .string ⟨#[]⟩, .int .i64 0] := by repeat (first | exact Blk.new _ _ _ | exact Blk.new2 _ _ _ _ | exact Blk.new3 _ _ _ _ _ | exact Blk.new4 _ _ _ _ _ _ | refine Blk.alloc ?_ _)
    replace hR := hR.below hq1
    generalize World.alloc w (.cells #[.slice none 0 0, .slice none 0 0, .int .i64 0, .int .i64 0, .int .i64 0, .slice none 0 0, .slice none 0 0, .slice none 0 0, .string ⟨#[]⟩, .string ⟨#[]⟩, .int .i64 0] 62) = wX at *
    have HB := hq1
    have z0 := (hZ.cell 0).trans (show _ = some (.slice none 0 0) from rfl)
    have z1 := (hZ.cell 1).trans (show _ = some (.slice none 0 0) from rfl)
    have z2 := (hZ.cell 2).trans (show _ = some (.int .i64 0) from rfl)
    have z3 := (hZ.cell 3).trans (show _ = some (.int .i64 0) from rfl)
    have z4 := (hZ.cell 4).trans (show _ = some (.int .i64 0) from rfl)
    have z5 := (hZ.cell 5).trans (show _ = some (.slice none 0 0) from rfl)
    have z6 := (hZ.cell 6).trans (show _ = some (.slice none 0 0) from rfl)
    have z7 := (hZ.cell 7).trans (show _ = some (.slice none 0 0) from rfl)
    have z8 := (hZ.cell 8).trans (show _ = some (.string ⟨#[]⟩) from rfl)
    have z9 := (hZ.cell 9).trans (show _ = some (.string ⟨#[]⟩) from rfl)
    have z10 := (hZ.cell 10).trans (show _ = some (.int .i64 0) from rfl)
    have hz0' := hZ.lt
    go_wp2_with fail
    refine (HC.out _ (hR.below (by repeat (first | exact Below.refl _ _ | refine Below.alloc ?_ (by first | exact Nat.le_refl _ | (simp <;> omega)) _ | refine Below.setCell ?_ (by first | exact Nat.le_refl _ | (simp <;> omega)) _)))).mono ?_
    rintro e w2 ⟨D0, d0, D1, d1, D2, d2, D3, d3, D4, d4, rfl, O0, O1, O2, O3, O4, ap, hb2⟩
    have hq2 : Below wX.heap.size wX w2 := bth (by repeat (first | exact Below.refl _ _ | refine Below.alloc ?_ (by first | exact Nat.le_refl _ | (simp <;> omega)) _ | refine Below.setCell ?_ (by first | exact Nat.le_refl _ | (simp <;> omega)) _)) hb2
    replace HB := bth HB hq2
    replace hR := hR.below hq2
    replace hZ := hZ.below hq2 hZ.lt
    replace z0 := (hZ.cell 0).trans (show _ = some (.slice none 0 0) from rfl)
    replace z1 := (hZ.cell 1).trans (show _ = some (.slice none 0 0) from rfl)
    replace z2 := (hZ.cell 2).trans (show _ = some (.int .i64 0) from rfl)
    replace z3 := (hZ.cell 3).trans (show _ = some (.int .i64 0) from rfl)
    replace z4 := (hZ.cell 4).trans (show _ = some (.int .i64 0) from rfl)
    replace z5 := (hZ.cell 5).trans (show _ = some (.slice none 0 0) from rfl)
    replace z6 := (hZ.cell 6).trans (show _ = some (.slice none 0 0) from rfl)
    replace z7 := (hZ.cell 7).trans (show _ = some (.slice none 0 0) from rfl)
    replace z8 := (hZ.cell 8).trans (show _ = some (.string ⟨#[]⟩) from rfl)
    replace z9 := (hZ.cell 9).trans (show _ = some (.string ⟨#[]⟩) from rfl)
    replace z10 := (hZ.cell 10).trans (show _ = some (.int .i64 0) from rfl)
    have zq2 := hq2.size
    clear O0 O1 O2 O3 O4 ap
    go_upto_region 2 with fail
    have hq3 : Below w2.heap.size w2 (World.alloc w2 (.cells #[.slice D0 0 d0, .slice D1 0 d1, .int .i64 0, .int .i64 0, .int .i64 0, .slice D2 0 d2, .slice D3 0 d3, .slice D4 0 d4] 40)) := bl1 w2 _
    have hF : Blk (World.alloc w2 (.cells #[.slice D0 0 d0, .slice D1 0 d1, .int .i64 0, .int .i64 0, .int .i64 0, .slice D2 0 d2, .slice D3 0 d3, .slice D4 0 d4] 40)) (w2.heap.size) 40 #[.slice D0 0 d0, .slice D1 0 d1, .int .i64 0, .int .i64 0, .int .i64 0, .slice D2 0 d2, .slice D3 0 d3, .slice D4 0 d4] := by repeat (first | exact Blk.new _ _ _ | exact Blk.new2 _ _ _ _ | exact Blk.new3 _ _ _ _ _ | exact Blk.new4 _ _ _ _ _ _ | refine Blk.alloc ?_ _)
    replace hR := hR.below hq3
    generalize World.alloc w2 (.cells #[.slice D0 0 d0, .slice D1 0 d1, .int .i64 0, .int .i64 0, .int .i64 0, .slice D2 0 d2, .slice D3 0 d3, .slice D4 0 d4] 40) = wF at *
    replace HB := bth HB hq3
    have f0 := (hF.cell 0).trans (show _ = some (.slice D0 0 d0) from rfl)
    have f1 := (hF.cell 1).trans (show _ = some (.slice D1 0 d1) from rfl)
    have f2 := (hF.cell 2).trans (show _ = some (.int .i64 0) from rfl)
    have f3 := (hF.cell 3).trans (show _ = some (.int .i64 0) from rfl)
    have f4 := (hF.cell 4).trans (show _ = some (.int .i64 0) from rfl)
    have f5 := (hF.cell 5).trans (show _ = some (.slice D2 0 d2) from rfl)
    have f6 := (hF.cell 6).trans (show _ = some (.slice D3 0 d3) from rfl)
    have f7 := (hF.cell 7).trans (show _ = some (.slice D4 0 d4) from rfl)
    replace hZ := hZ.below hq3 hZ.lt
    clear z0 z1 z2 z3 z4 z5 z6 z7 z8 z9 z10
    have z0 := (hZ.cell 0).trans (show _ = some (.slice none 0 0) from rfl)
    have z1 := (hZ.cell 1).trans (show _ = some (.slice none 0 0) from rfl)
    have z2 := (hZ.cell 2).trans (show _ = some (.int .i64 0) from rfl)
    have z3 := (hZ.cell 3).trans (show _ = some (.int .i64 0) from rfl)
    have z4 := (hZ.cell 4).trans (show _ = some (.int .i64 0) from rfl)
    have z5 := (hZ.cell 5).trans (show _ = some (.slice none 0 0) from rfl)
    have z6 := (hZ.cell 6).trans (show _ = some (.slice none 0 0) from rfl)
    have z7 := (hZ.cell 7).trans (show _ = some (.slice none 0 0) from rfl)
    have z8 := (hZ.cell 8).trans (show _ = some (.string ⟨#[]⟩) from rfl)
    have z9 := (hZ.cell 9).trans (show _ = some (.string ⟨#[]⟩) from rfl)
    have z10 := (hZ.cell 10).trans (show _ = some (.int .i64 0) from rfl)
    clear hR HC
    have fhZ0 := hZ.frozen 0
    have fhZ1 := hZ.frozen 1
    have fhZ2 := hZ.frozen 2
    have fhZ3 := hZ.frozen 3
    have fhZ4 := hZ.frozen 4
    have fhZ5 := hZ.frozen 5
    have fhZ6 := hZ.frozen 6
    have fhZ7 := hZ.frozen 7
    have fhZ8 := hZ.frozen 8
    have fhZ9 := hZ.frozen 9
    have fhZ10 := hZ.frozen 10
    have yhF := hF.lt
    have yhZ := hZ.lt
    go_wp2
    clear f0 f1 f2 f3 f4 f5 f6 f7 z0 z1 z2 z3 z4 z5 z6 z7 z8 z9 z10
    replace HB : Below w.heap.size w (World.setCell (World.setCell (World.setCell (World.setCell (World.setCell (World.setCell (World.setCell (World.setCell (World.setCell (World.setCell (World.setCell wF ⟨w.heap.size, 0, none⟩ (.slice none 0 0)) ⟨w.heap.size, 1, none⟩ (.slice none 0 0)) ⟨w.heap.size, 2, none⟩ (.int .i64 0)) ⟨w.heap.size, 3, none⟩ (.int .i64 0)) ⟨w.heap.size, 4, none⟩ (.int .i64 0)) ⟨w.heap.size, 5, none⟩ (.slice none 0 0)) ⟨w.heap.size, 6, none⟩ (.slice none 0 0)) ⟨w.heap.size, 7, none⟩ (.slice none 0 0)) ⟨w.heap.size, 8, none⟩ (.string ⟨#[]⟩)) ⟨w.heap.size, 9, none⟩ (.string ⟨#[]⟩)) ⟨w.heap.size, 10, none⟩ (.int .i64 0)) := (((((((((((HB.setCell (by show w.heap.size ≤ w.heap.size; omega) (.slice none 0 0) (p := ⟨w.heap.size, 0, none⟩)).setCell (by show w.heap.size ≤ w.heap.size; omega) (.slice none 0 0) (p := ⟨w.heap.size, 1, none⟩)).setCell (by show w.heap.size ≤ w.heap.size; omega) (.int .i64 0) (p := ⟨w.heap.size, 2, none⟩)).setCell (by show w.heap.size ≤ w.heap.size; omega) (.int .i64 0) (p := ⟨w.heap.size, 3, none⟩)).setCell (by show w.heap.size ≤ w.heap.size; omega) (.int .i64 0) (p := ⟨w.heap.size, 4, none⟩)).setCell (by show w.heap.size ≤ w.heap.size; omega) (.slice none 0 0) (p := ⟨w.heap.size, 5, none⟩)).setCell (by show w.heap.size ≤ w.heap.size; omega) (.slice none 0 0) (p := ⟨w.heap.size, 6, none⟩)).setCell (by show w.heap.size ≤ w.heap.size; omega) (.slice none 0 0) (p := ⟨w.heap.size, 7, none⟩)).setCell (by show w.heap.size ≤ w.heap.size; omega) (.string ⟨#[]⟩) (p := ⟨w.heap.size, 8, none⟩)).setCell (by show w.heap.size ≤ w.heap.size; omega) (.string ⟨#[]⟩) (p := ⟨w.heap.size, 9, none⟩)).setCell (by show w.heap.size ≤ w.heap.size; omega) (.int .i64 0) (p := ⟨w.heap.size, 10, none⟩))
    replace hF := (((((((((((hF.far' (p := ⟨w.heap.size, 0, none⟩) (by show _ ≠ w.heap.size; omega) (.slice none 0 0)).far' (p := ⟨w.heap.size, 1, none⟩) (by show _ ≠ w.heap.size; omega) (.slice none 0 0)).far' (p := ⟨w.heap.size, 2, none⟩) (by show _ ≠ w.heap.size; omega) (.int .i64 0)).far' (p := ⟨w.heap.size, 3, none⟩) (by show _ ≠ w.heap.size; omega) (.int .i64 0)).far' (p := ⟨w.heap.size, 4, none⟩) (by show _ ≠ w.heap.size; omega) (.int .i64 0)).far' (p := ⟨w.heap.size, 5, none⟩) (by show _ ≠ w.heap.size; omega) (.slice none 0 0)).far' (p := ⟨w.heap.size, 6, none⟩) (by show _ ≠ w.heap.size; omega) (.slice none 0 0)).far' (p := ⟨w.heap.size, 7, none⟩) (by show _ ≠ w.heap.size; omega) (.slice none 0 0)).far' (p := ⟨w.heap.size, 8, none⟩) (by show _ ≠ w.heap.size; omega) (.string ⟨#[]⟩)).far' (p := ⟨w.heap.size, 9, none⟩) (by show _ ≠ w.heap.size; omega) (.string ⟨#[]⟩)).far' (p := ⟨w.heap.size, 10, none⟩) (by show _ ≠ w.heap.size; omega) (.int .i64 0))
    replace hZ : Blk (World.setCell (World.setCell (World.setCell (World.setCell (World.setCell (World.setCell (World.setCell (World.setCell (World.setCell (World.setCell (World.setCell wF ⟨w.heap.size, 0, none⟩ (.slice none 0 0)) ⟨w.heap.size, 1, none⟩ (.slice none 0 0)) ⟨w.heap.size, 2, none⟩ (.int .i64 0)) ⟨w.heap.size, 3, none⟩ (.int .i64 0)) ⟨w.heap.size, 4, none⟩ (.int .i64 0)) ⟨w.heap.size, 5, none⟩ (.slice none 0 0)) ⟨w.heap.size, 6, none⟩ (.slice none 0 0)) ⟨w.heap.size, 7, none⟩ (.slice none 0 0)) ⟨w.heap.size, 8, none⟩ (.string ⟨#[]⟩)) ⟨w.heap.size, 9, none⟩ (.string ⟨#[]⟩)) ⟨w.heap.size, 10, none⟩ (.int .i64 0)) (w.heap.size) 62 #[.slice none 0 0, .slice none 0 0, .int .i64 0, .int .i64 0, .int .i64 0, .slice none 0 0, .slice none 0 0, .slice none 0 0, .string ⟨#[]⟩, .string ⟨#[]⟩, .int .i64 0] := (blk_set11 hZ)
    have szW9 : ((World.setCell (World.setCell (World.setCell (World.setCell (World.setCell (World.setCell (World.setCell (World.setCell (World.setCell (World.setCell (World.setCell wF ⟨w.heap.size, 0, none⟩ (.slice none 0 0)) ⟨w.heap.size, 1, none⟩ (.slice none 0 0)) ⟨w.heap.size, 2, none⟩ (.int .i64 0)) ⟨w.heap.size, 3, none⟩ (.int .i64 0)) ⟨w.heap.size, 4, none⟩ (.int .i64 0)) ⟨w.heap.size, 5, none⟩ (.slice none 0 0)) ⟨w.heap.size, 6, none⟩ (.slice none 0 0)) ⟨w.heap.size, 7, none⟩ (.slice none 0 0)) ⟨w.heap.size, 8, none⟩ (.string ⟨#[]⟩)) ⟨w.heap.size, 9, none⟩ (.string ⟨#[]⟩)) ⟨w.heap.size, 10, none⟩ (.int .i64 0))).heap.size = wF.heap.size := by simp [World.setCell]
    generalize World.setCell (World.setCell (World.setCell (World.setCell (World.setCell (World.setCell (World.setCell (World.setCell (World.setCell (World.setCell (World.setCell wF ⟨w.heap.size, 0, none⟩ (.slice none 0 0)) ⟨w.heap.size, 1, none⟩ (.slice none 0 0)) ⟨w.heap.size, 2, none⟩ (.int .i64 0)) ⟨w.heap.size, 3, none⟩ (.int .i64 0)) ⟨w.heap.size, 4, none⟩ (.int .i64 0)) ⟨w.heap.size, 5, none⟩ (.slice none 0 0)) ⟨w.heap.size, 6, none⟩ (.slice none 0 0)) ⟨w.heap.size, 7, none⟩ (.slice none 0 0)) ⟨w.heap.size, 8, none⟩ (.string ⟨#[]⟩)) ⟨w.heap.size, 9, none⟩ (.string ⟨#[]⟩)) ⟨w.heap.size, 10, none⟩ (.int .i64 0) = W9 at *
    have f0 := (hF.cell 0).trans (show _ = some (.slice D0 0 d0) from rfl)
    have f1 := (hF.cell 1).trans (show _ = some (.slice D1 0 d1) from rfl)
    have f2 := (hF.cell 2).trans (show _ = some (.int .i64 0) from rfl)
    have f3 := (hF.cell 3).trans (show _ = some (.int .i64 0) from rfl)
    have f4 := (hF.cell 4).trans (show _ = some (.int .i64 0) from rfl)
    have f5 := (hF.cell 5).trans (show _ = some (.slice D2 0 d2) from rfl)
    have f6 := (hF.cell 6).trans (show _ = some (.slice D3 0 d3) from rfl)
    have f7 := (hF.cell 7).trans (show _ = some (.slice D4 0 d4) from rfl)
    have z0 := (hZ.cell 0).trans (show _ = some (.slice none 0 0) from rfl)
    have z1 := (hZ.cell 1).trans (show _ = some (.slice none 0 0) from rfl)
    have z2 := (hZ.cell 2).trans (show _ = some (.int .i64 0) from rfl)
    have z3 := (hZ.cell 3).trans (show _ = some (.int .i64 0) from rfl)
    have z4 := (hZ.cell 4).trans (show _ = some (.int .i64 0) from rfl)
    have z5 := (hZ.cell 5).trans (show _ = some (.slice none 0 0) from rfl)
    have z6 := (hZ.cell 6).trans (show _ = some (.slice none 0 0) from rfl)
    have z7 := (hZ.cell 7).trans (show _ = some (.slice none 0 0) from rfl)
    have z8 := (hZ.cell 8).trans (show _ = some (.string ⟨#[]⟩) from rfl)
    have z9 := (hZ.cell 9).trans (show _ = some (.string ⟨#[]⟩) from rfl)
    have z10 := (hZ.cell 10).trans (show _ = some (.int .i64 0) from rfl)
    refine bodyPost_ret (v := .tuple #[.agg #[.slice none 0 0, .slice none 0 0, .int .i64 0, .int .i64 0, .int .i64 0, .slice none 0 0, .slice none 0 0, .slice none 0 0, .string ⟨#[]⟩, .string ⟨#[]⟩, .int .i64 0], .bool false]) (by simp [results, Try.results29, go_sem, z0, z1, z2, z3, z4, z5, z6, z7, z8, z9, z10]) rfl ?_
    exact ⟨none, 0, none, 0, none, 0, none, 0, none, 0, rfl, OwnV.nil, OwnV.nil, OwnV.nil, OwnV.nil, OwnV.nil, apart_one5 _, HB⟩
  · clear HF
    replace HC := Lib.hid HC
    go_enter Try.func29, Try.ntmps29
    go_upto_region 1 with fail
    have hq1 : Below w.heap.size w (World.alloc w (.cells #[.slice none 0 0, .slice none 0 0, .int .i64 0, .int .i64 0, .int .i64 0, .slice none 0 0, .slice none 0 0, .slice none 0 0, .string ⟨#[]⟩, .string ⟨#[]⟩, .int .i64 0] 62)) := bl1 w _
    have hZ : Blk (World.alloc w (.cells #[.slice none 0 0, .slice none 0 0, .int .i64 0, .int .i64 0, .int .i64 0, .slice none 0 0, .slice none 0 0, .slice none 0 0, .string ⟨#[]⟩, .string ⟨#[]⟩, .int .i64 0] 62)) (w.heap.size) 62 #[.slice none 0 0, .slice none 0 0, .int .i64 0, .int .i64 0, .int .i64 0, .slice none 0 0, .slice none 0 0, .slice none 0 0, .string ⟨#[]⟩, .string ⟨#[]⟩, .int .i64 0] := by repeat (first | exact Blk.new _ _ _ | exact Blk.new2 _ _ _ _ | exact Blk.new3 _ _ _ _ _ | exact Blk.new4 _ _ _ _ _ _ | refine Blk.alloc ?_ _)
    replace hR := hR.below hq1
    generalize World.alloc w (.cells #[.slice none 0 0, .slice none 0 0, .int .i64 0, .int .i64 0, .int .i64 0, .slice none 0 0, .slice none 0 0, .slice none 0 0, .string ⟨#[]⟩, .string ⟨#[]⟩, .int .i64 0] 62) = wX at *
    have HB := hq1
    have z0 := (hZ.cell 0).trans (show _ = some (.slice none 0 0) from rfl)
    have z1 := (hZ.cell 1).trans (show _ = some (.slice none 0 0) from rfl)
    have z2 := (hZ.cell 2).trans (show _ = some (.int .i64 0) from rfl)
    have z3 := (hZ.cell 3).trans (show _ = some (.int .i64 0) from rfl)
    have z4 := (hZ.cell 4).trans (show _ = some (.int .i64 0) from rfl)
    have z5 := (hZ.cell 5).trans (show _ = some (.slice none 0 0) from rfl)
    have z6 := (hZ.cell 6).trans (show _ = some (.slice none 0 0) from rfl)
    have z7 := (hZ.cell 7).trans (show _ = some (.slice none 0 0) from rfl)
    have z8 := (hZ.cell 8).trans (show _ = some (.string ⟨#[]⟩) from rfl)
    have z9 := (hZ.cell 9).trans (show _ = some (.string ⟨#[]⟩) from rfl)
    have z10 := (hZ.cell 10).trans (show _ = some (.int .i64 0) from rfl)
    have hz0' := hZ.lt
    go_wp2_with fail
    refine (HC.out _ (hR.below (by repeat (first | exact Below.refl _ _ | refine Below.alloc ?_ (by first | exact Nat.le_refl _ | (simp <;> omega)) _ | refine Below.setCell ?_ (by first | exact Nat.le_refl _ | (simp <;> omega)) _)))).mono ?_
    rintro e w2 ⟨D0, d0, D1, d1, D2, d2, D3, d3, D4, d4, rfl, O0, O1, O2, O3, O4, ap, hb2⟩
    have hq2 : Below wX.heap.size wX w2 := bth (by repeat (first | exact Below.refl _ _ | refine Below.alloc ?_ (by first | exact Nat.le_refl _ | (simp <;> omega)) _ | refine Below.setCell ?_ (by first | exact Nat.le_refl _ | (simp <;> omega)) _)) hb2
    replace HB := bth HB hq2
    replace hR := hR.below hq2
    replace hZ := hZ.below hq2 hZ.lt
    replace z0 := (hZ.cell 0).trans (show _ = some (.slice none 0 0) from rfl)
    replace z1 := (hZ.cell 1).trans (show _ = some (.slice none 0 0) from rfl)
    replace z2 := (hZ.cell 2).trans (show _ = some (.int .i64 0) from rfl)
    replace z3 := (hZ.cell 3).trans (show _ = some (.int .i64 0) from rfl)
    replace z4 := (hZ.cell 4).trans (show _ = some (.int .i64 0) from rfl)
    replace z5 := (hZ.cell 5).trans (show _ = some (.slice none 0 0) from rfl)
    replace z6 := (hZ.cell 6).trans (show _ = some (.slice none 0 0) from rfl)
    replace z7 := (hZ.cell 7).trans (show _ = some (.slice none 0 0) from rfl)
    replace z8 := (hZ.cell 8).trans (show _ = some (.string ⟨#[]⟩) from rfl)
    replace z9 := (hZ.cell 9).trans (show _ = some (.string ⟨#[]⟩) from rfl)
    replace z10 := (hZ.cell 10).trans (show _ = some (.int .i64 0) from rfl)
    have zq2 := hq2.size
    go_upto_region 2 with fail
    have hq3 : Below w2.heap.size w2 (World.alloc w2 (.cells #[.slice D0 M.rules.length d0, .slice D1 M.pend.length d1, .int .i64 M.turns, .int .i64 M.secs, .int .i64 M.spk, .slice D2 M.wait.length d2, .slice D3 M.shares.length d3, .slice D4 M.outs.length d4] 40)) := bl1 w2 _
    have hF : Blk (World.alloc w2 (.cells #[.slice D0 M.rules.length d0, .slice D1 M.pend.length d1, .int .i64 M.turns, .int .i64 M.secs, .int .i64 M.spk, .slice D2 M.wait.length d2, .slice D3 M.shares.length d3, .slice D4 M.outs.length d4] 40)) (w2.heap.size) 40 #[.slice D0 M.rules.length d0, .slice D1 M.pend.length d1, .int .i64 M.turns, .int .i64 M.secs, .int .i64 M.spk, .slice D2 M.wait.length d2, .slice D3 M.shares.length d3, .slice D4 M.outs.length d4] := by repeat (first | exact Blk.new _ _ _ | exact Blk.new2 _ _ _ _ | exact Blk.new3 _ _ _ _ _ | exact Blk.new4 _ _ _ _ _ _ | refine Blk.alloc ?_ _)
    replace hR := hR.below hq3
    replace O0 := O0.later hq3
    replace O1 := O1.later hq3
    replace O2 := O2.later hq3
    replace O3 := O3.later hq3
    replace O4 := O4.later hq3
    generalize World.alloc w2 (.cells #[.slice D0 M.rules.length d0, .slice D1 M.pend.length d1, .int .i64 M.turns, .int .i64 M.secs, .int .i64 M.spk, .slice D2 M.wait.length d2, .slice D3 M.shares.length d3, .slice D4 M.outs.length d4] 40) = wF at *
    replace HB := bth HB hq3
    have f0 := (hF.cell 0).trans (show _ = some (.slice D0 M.rules.length d0) from rfl)
    have f1 := (hF.cell 1).trans (show _ = some (.slice D1 M.pend.length d1) from rfl)
    have f2 := (hF.cell 2).trans (show _ = some (.int .i64 M.turns) from rfl)
    have f3 := (hF.cell 3).trans (show _ = some (.int .i64 M.secs) from rfl)
    have f4 := (hF.cell 4).trans (show _ = some (.int .i64 M.spk) from rfl)
    have f5 := (hF.cell 5).trans (show _ = some (.slice D2 M.wait.length d2) from rfl)
    have f6 := (hF.cell 6).trans (show _ = some (.slice D3 M.shares.length d3) from rfl)
    have f7 := (hF.cell 7).trans (show _ = some (.slice D4 M.outs.length d4) from rfl)
    replace hZ := hZ.below hq3 hZ.lt
    clear z0 z1 z2 z3 z4 z5 z6 z7 z8 z9 z10
    have z0 := (hZ.cell 0).trans (show _ = some (.slice none 0 0) from rfl)
    have z1 := (hZ.cell 1).trans (show _ = some (.slice none 0 0) from rfl)
    have z2 := (hZ.cell 2).trans (show _ = some (.int .i64 0) from rfl)
    have z3 := (hZ.cell 3).trans (show _ = some (.int .i64 0) from rfl)
    have z4 := (hZ.cell 4).trans (show _ = some (.int .i64 0) from rfl)
    have z5 := (hZ.cell 5).trans (show _ = some (.slice none 0 0) from rfl)
    have z6 := (hZ.cell 6).trans (show _ = some (.slice none 0 0) from rfl)
    have z7 := (hZ.cell 7).trans (show _ = some (.slice none 0 0) from rfl)
    have z8 := (hZ.cell 8).trans (show _ = some (.string ⟨#[]⟩) from rfl)
    have z9 := (hZ.cell 9).trans (show _ = some (.string ⟨#[]⟩) from rfl)
    have z10 := (hZ.cell 10).trans (show _ = some (.int .i64 0) from rfl)
    clear hR HC
    have fhZ0 := hZ.frozen 0
    have fhZ1 := hZ.frozen 1
    have fhZ2 := hZ.frozen 2
    have fhZ3 := hZ.frozen 3
    have fhZ4 := hZ.frozen 4
    have fhZ5 := hZ.frozen 5
    have fhZ6 := hZ.frozen 6
    have fhZ7 := hZ.frozen 7
    have fhZ8 := hZ.frozen 8
    have fhZ9 := hZ.frozen 9
    have fhZ10 := hZ.frozen 10
    have yhF := hF.lt
    have yhZ := hZ.lt
    go_wp2
    clear f0 f1 f2 f3 f4 f5 f6 f7 z0 z1 z2 z3 z4 z5 z6 z7 z8 z9 z10
    replace HB : Below w.heap.size w (World.setCell (World.setCell (World.setCell (World.setCell (World.setCell (World.setCell (World.setCell (World.setCell (World.setCell (World.setCell (World.setCell wF ⟨w.heap.size, 0, none⟩ (.slice D0 M.rules.length d0)) ⟨w.heap.size, 1, none⟩ (.slice D1 M.pend.length d1)) ⟨w.heap.size, 2, none⟩ (.int .i64 M.turns)) ⟨w.heap.size, 3, none⟩ (.int .i64 M.secs)) ⟨w.heap.size, 4, none⟩ (.int .i64 M.spk)) ⟨w.heap.size, 5, none⟩ (.slice D2 M.wait.length d2)) ⟨w.heap.size, 6, none⟩ (.slice D3 M.shares.length d3)) ⟨w.heap.size, 7, none⟩ (.slice D4 M.outs.length d4)) ⟨w.heap.size, 8, none⟩ (.string ⟨#[]⟩)) ⟨w.heap.size, 9, none⟩ (.string ⟨#[]⟩)) ⟨w.heap.size, 10, none⟩ (.int .i64 0)) := (((((((((((HB.setCell (by show w.heap.size ≤ w.heap.size; omega) (.slice D0 M.rules.length d0) (p := ⟨w.heap.size, 0, none⟩)).setCell (by show w.heap.size ≤ w.heap.size; omega) (.slice D1 M.pend.length d1) (p := ⟨w.heap.size, 1, none⟩)).setCell (by show w.heap.size ≤ w.heap.size; omega) (.int .i64 M.turns) (p := ⟨w.heap.size, 2, none⟩)).setCell (by show w.heap.size ≤ w.heap.size; omega) (.int .i64 M.secs) (p := ⟨w.heap.size, 3, none⟩)).setCell (by show w.heap.size ≤ w.heap.size; omega) (.int .i64 M.spk) (p := ⟨w.heap.size, 4, none⟩)).setCell (by show w.heap.size ≤ w.heap.size; omega) (.slice D2 M.wait.length d2) (p := ⟨w.heap.size, 5, none⟩)).setCell (by show w.heap.size ≤ w.heap.size; omega) (.slice D3 M.shares.length d3) (p := ⟨w.heap.size, 6, none⟩)).setCell (by show w.heap.size ≤ w.heap.size; omega) (.slice D4 M.outs.length d4) (p := ⟨w.heap.size, 7, none⟩)).setCell (by show w.heap.size ≤ w.heap.size; omega) (.string ⟨#[]⟩) (p := ⟨w.heap.size, 8, none⟩)).setCell (by show w.heap.size ≤ w.heap.size; omega) (.string ⟨#[]⟩) (p := ⟨w.heap.size, 9, none⟩)).setCell (by show w.heap.size ≤ w.heap.size; omega) (.int .i64 0) (p := ⟨w.heap.size, 10, none⟩))
    replace hF := (((((((((((hF.far' (p := ⟨w.heap.size, 0, none⟩) (by show _ ≠ w.heap.size; omega) (.slice D0 M.rules.length d0)).far' (p := ⟨w.heap.size, 1, none⟩) (by show _ ≠ w.heap.size; omega) (.slice D1 M.pend.length d1)).far' (p := ⟨w.heap.size, 2, none⟩) (by show _ ≠ w.heap.size; omega) (.int .i64 M.turns)).far' (p := ⟨w.heap.size, 3, none⟩) (by show _ ≠ w.heap.size; omega) (.int .i64 M.secs)).far' (p := ⟨w.heap.size, 4, none⟩) (by show _ ≠ w.heap.size; omega) (.int .i64 M.spk)).far' (p := ⟨w.heap.size, 5, none⟩) (by show _ ≠ w.heap.size; omega) (.slice D2 M.wait.length d2)).far' (p := ⟨w.heap.size, 6, none⟩) (by show _ ≠ w.heap.size; omega) (.slice D3 M.shares.length d3)).far' (p := ⟨w.heap.size, 7, none⟩) (by show _ ≠ w.heap.size; omega) (.slice D4 M.outs.length d4)).far' (p := ⟨w.heap.size, 8, none⟩) (by show _ ≠ w.heap.size; omega) (.string ⟨#[]⟩)).far' (p := ⟨w.heap.size, 9, none⟩) (by show _ ≠ w.heap.size; omega) (.string ⟨#[]⟩)).far' (p := ⟨w.heap.size, 10, none⟩) (by show _ ≠ w.heap.size; omega) (.int .i64 0))
    replace hZ : Blk (World.setCell (World.setCell (World.setCell (World.setCell (World.setCell (World.setCell (World.setCell (World.setCell (World.setCell (World.setCell (World.setCell wF ⟨w.heap.size, 0, none⟩ (.slice D0 M.rules.length d0)) ⟨w.heap.size, 1, none⟩ (.slice D1 M.pend.length d1)) ⟨w.heap.size, 2, none⟩ (.int .i64 M.turns)) ⟨w.heap.size, 3, none⟩ (.int .i64 M.secs)) ⟨w.heap.size, 4, none⟩ (.int .i64 M.spk)) ⟨w.heap.size, 5, none⟩ (.slice D2 M.wait.length d2)) ⟨w.heap.size, 6, none⟩ (.slice D3 M.shares.length d3)) ⟨w.heap.size, 7, none⟩ (.slice D4 M.outs.length d4)) ⟨w.heap.size, 8, none⟩ (.string ⟨#[]⟩)) ⟨w.heap.size, 9, none⟩ (.string ⟨#[]⟩)) ⟨w.heap.size, 10, none⟩ (.int .i64 0)) (w.heap.size) 62 #[.slice D0 M.rules.length d0, .slice D1 M.pend.length d1, .int .i64 M.turns, .int .i64 M.secs, .int .i64 M.spk, .slice D2 M.wait.length d2, .slice D3 M.shares.length d3, .slice D4 M.outs.length d4, .string ⟨#[]⟩, .string ⟨#[]⟩, .int .i64 0] := (blk_set11 hZ)
    have gRW9 : World.grownBy wF (World.setCell (World.setCell (World.setCell (World.setCell (World.setCell (World.setCell (World.setCell (World.setCell (World.setCell (World.setCell (World.setCell wF ⟨w.heap.size, 0, none⟩ (.slice D0 M.rules.length d0)) ⟨w.heap.size, 1, none⟩ (.slice D1 M.pend.length d1)) ⟨w.heap.size, 2, none⟩ (.int .i64 M.turns)) ⟨w.heap.size, 3, none⟩ (.int .i64 M.secs)) ⟨w.heap.size, 4, none⟩ (.int .i64 M.spk)) ⟨w.heap.size, 5, none⟩ (.slice D2 M.wait.length d2)) ⟨w.heap.size, 6, none⟩ (.slice D3 M.shares.length d3)) ⟨w.heap.size, 7, none⟩ (.slice D4 M.outs.length d4)) ⟨w.heap.size, 8, none⟩ (.string ⟨#[]⟩)) ⟨w.heap.size, 9, none⟩ (.string ⟨#[]⟩)) ⟨w.heap.size, 10, none⟩ (.int .i64 0)) (some (w.heap.size)) := (grown_set (j := 10) (grown_set (j := 9) (grown_set (j := 8) (grown_set (j := 7) (grown_set (j := 6) (grown_set (j := 5) (grown_set (j := 4) (grown_set (j := 3) (grown_set (j := 2) (grown_set (j := 1) (grown_set (j := 0) (grown_refl wF (some (w.heap.size))) (.slice D0 M.rules.length d0)) (.slice D1 M.pend.length d1)) (.int .i64 M.turns)) (.int .i64 M.secs)) (.int .i64 M.spk)) (.slice D2 M.wait.length d2)) (.slice D3 M.shares.length d3)) (.slice D4 M.outs.length d4)) (.string ⟨#[]⟩)) (.string ⟨#[]⟩)) (.int .i64 0))
    have szW9 : ((World.setCell (World.setCell (World.setCell (World.setCell (World.setCell (World.setCell (World.setCell (World.setCell (World.setCell (World.setCell (World.setCell wF ⟨w.heap.size, 0, none⟩ (.slice D0 M.rules.length d0)) ⟨w.heap.size, 1, none⟩ (.slice D1 M.pend.length d1)) ⟨w.heap.size, 2, none⟩ (.int .i64 M.turns)) ⟨w.heap.size, 3, none⟩ (.int .i64 M.secs)) ⟨w.heap.size, 4, none⟩ (.int .i64 M.spk)) ⟨w.heap.size, 5, none⟩ (.slice D2 M.wait.length d2)) ⟨w.heap.size, 6, none⟩ (.slice D3 M.shares.length d3)) ⟨w.heap.size, 7, none⟩ (.slice D4 M.outs.length d4)) ⟨w.heap.size, 8, none⟩ (.string ⟨#[]⟩)) ⟨w.heap.size, 9, none⟩ (.string ⟨#[]⟩)) ⟨w.heap.size, 10, none⟩ (.int .i64 0))).heap.size = wF.heap.size := by simp [World.setCell]
    generalize World.setCell (World.setCell (World.setCell (World.setCell (World.setCell (World.setCell (World.setCell (World.setCell (World.setCell (World.setCell (World.setCell wF ⟨w.heap.size, 0, none⟩ (.slice D0 M.rules.length d0)) ⟨w.heap.size, 1, none⟩ (.slice D1 M.pend.length d1)) ⟨w.heap.size, 2, none⟩ (.int .i64 M.turns)) ⟨w.heap.size, 3, none⟩ (.int .i64 M.secs)) ⟨w.heap.size, 4, none⟩ (.int .i64 M.spk)) ⟨w.heap.size, 5, none⟩ (.slice D2 M.wait.length d2)) ⟨w.heap.size, 6, none⟩ (.slice D3 M.shares.length d3)) ⟨w.heap.size, 7, none⟩ (.slice D4 M.outs.length d4)) ⟨w.heap.size, 8, none⟩ (.string ⟨#[]⟩)) ⟨w.heap.size, 9, none⟩ (.string ⟨#[]⟩)) ⟨w.heap.size, 10, none⟩ (.int .i64 0) = W9 at *
    replace O0 := O0.kept gRW9 (fun k hk e => by have h1 := (O0.lt k hk); have h2 : k = w.heap.size := (Option.some.inj e); first | (clear gRW9; omega) | exact absurd h2 (neO0 k hk))
    replace O1 := O1.kept gRW9 (fun k hk e => by have h1 := (O1.lt k hk); have h2 : k = w.heap.size := (Option.some.inj e); first | (clear gRW9; omega) | exact absurd h2 (neO1 k hk))
    replace O2 := O2.kept gRW9 (fun k hk e => by have h1 := (O2.lt k hk); have h2 : k = w.heap.size := (Option.some.inj e); first | (clear gRW9; omega) | exact absurd h2 (neO2 k hk))
    replace O3 := O3.kept gRW9 (fun k hk e => by have h1 := (O3.lt k hk); have h2 : k = w.heap.size := (Option.some.inj e); first | (clear gRW9; omega) | exact absurd h2 (neO3 k hk))
    replace O4 := O4.kept gRW9 (fun k hk e => by have h1 := (O4.lt k hk); have h2 : k = w.heap.size := (Option.some.inj e); first | (clear gRW9; omega) | exact absurd h2 (neO4 k hk))
    have f0 := (hF.cell 0).trans (show _ = some (.slice D0 M.rules.length d0) from rfl)
    have f1 := (hF.cell 1).trans (show _ = some (.slice D1 M.pend.length d1) from rfl)
    have f2 := (hF.cell 2).trans (show _ = some (.int .i64 M.turns) from rfl)
    have f3 := (hF.cell 3).trans (show _ = some (.int .i64 M.secs) from rfl)
    have f4 := (hF.cell 4).trans (show _ = some (.int .i64 M.spk) from rfl)
    have f5 := (hF.cell 5).trans (show _ = some (.slice D2 M.wait.length d2) from rfl)
    have f6 := (hF.cell 6).trans (show _ = some (.slice D3 M.shares.length d3) from rfl)
    have f7 := (hF.cell 7).trans (show _ = some (.slice D4 M.outs.length d4) from rfl)
    have z0 := (hZ.cell 0).trans (show _ = some (.slice D0 M.rules.length d0) from rfl)
    have z1 := (hZ.cell 1).trans (show _ = some (.slice D1 M.pend.length d1) from rfl)
    have z2 := (hZ.cell 2).trans (show _ = some (.int .i64 M.turns) from rfl)
    have z3 := (hZ.cell 3).trans (show _ = some (.int .i64 M.secs) from rfl)
    have z4 := (hZ.cell 4).trans (show _ = some (.int .i64 M.spk) from rfl)
    have z5 := (hZ.cell 5).trans (show _ = some (.slice D2 M.wait.length d2) from rfl)
    have z6 := (hZ.cell 6).trans (show _ = some (.slice D3 M.shares.length d3) from rfl)
    have z7 := (hZ.cell 7).trans (show _ = some (.slice D4 M.outs.length d4) from rfl)
    have z8 := (hZ.cell 8).trans (show _ = some (.string ⟨#[]⟩) from rfl)
    have z9 := (hZ.cell 9).trans (show _ = some (.string ⟨#[]⟩) from rfl)
    have z10 := (hZ.cell 10).trans (show _ = some (.int .i64 0) from rfl)
    refine bodyPost_ret (v := .tuple #[.agg #[.slice D0 M.rules.length d0, .slice D1 M.pend.length d1, .int .i64 M.turns, .int .i64 M.secs, .int .i64 M.spk, .slice D2 M.wait.length d2, .slice D3 M.shares.length d3, .slice D4 M.outs.length d4, .string ⟨#[]⟩, .string ⟨#[]⟩, .int .i64 0], .bool true]) (by simp [results, Try.results29, go_sem, z0, z1, z2, z3, z4, z5, z6, z7, z8, z9, z10]) rfl ?_
    exact ⟨D0, d0, D1, d1, D2, d2, D3, d3, D4, d4, rfl, O0.base (by omega), O1.base (by omega), O2.base (by omega), O3.base (by omega), O4.base (by omega), ap, HB⟩
end Go.Proofs.Ytkkdegmfmimdgaa
