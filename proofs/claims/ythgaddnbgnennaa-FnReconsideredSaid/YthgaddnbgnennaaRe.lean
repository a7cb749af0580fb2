/- A question is decided anew; who was absent then. -/
import Derived.Test.YthgaddnbgnennaaMkD
import Derived.Test.YthgaddnbgnennaaDec4
import Derived.Test.YthgaddnbgnennaaPs
import Derived.Test.YthgaddnbgnennaaMkr
import Derived.Test.YthgaddnbgnennaaBlk
namespace Go.G9
open Go.RowKit
theorem own_apart {T U : Type} {B B' : Nat} {e e' : TypeId} {sz sz' : Nat} {f : T → List Value} {f' : U → List Value} {V V' : World} {v u : Value} {xs : List T} {ys : List U} (h : OwnV B e sz f V v xs) (h' : OwnV B' e' sz' f' V' u ys) (hd : V.heap.size ≤ B' ∨ V'.heap.size ≤ B) : ∀ k, v.ownBlock = some k → some k ≠ u.ownBlock := fun k hk e => by
  have h1 := h.lt k hk
  have h2 := h'.lt k e.symm
  omega
theorem rdsb_lt {T : Type} {sz : Nat} {f : T → List Value} {w : World} {A : Option Addr} {xs : List T} (h : Rds sz f w A xs) (hn : 0 < xs.length) {ad : Addr} (ha : A = some ad) : ad.block < w.heap.size := by
  obtain ⟨b, off, hA, hlt, _⟩ := h hn
  rw [hA] at ha; injection ha with ha; subst ha; exact hlt
end Go.G9
namespace Go.Proofs.Ythgaddnbgnennaa
open Go.RowKit Go.G9
def reOk (d : Dec) (ys ns : List Int) : Bool := decB d && (!d.done && sidesB ys ns)
def reD (d : Dec) (ys ns : List Int) : Dec := if reOk d ys ns then ⟨d.id, d.day, d.need, ys, ns, true⟩ else ⟨0, 0, 0, [], [], false⟩
theorem reD_yes (d : Dec) (ys ns : List Int) (h : ys.length ≤ 1048576) : (reD d ys ns).yes.length ≤ 1048576 := by unfold reD; split <;> simp; omega
theorem reD_no (d : Dec) (ys ns : List Int) (h : ns.length ≤ 1048576) : (reD d ys ns).no.length ≤ 1048576 := by unfold reD; split <;> simp; omega
def sReS (es fs : List Int) : MkSpec (Option Addr × Nat) where
  par := fun _ => []
  val := fun n p => match n with
    | 7 => .slice p.1 es.length p.2
    | 9 => .slice p.1 fs.length p.2
    | _ => undef
  post := fun n _ p V0 V => match n with
    | 7 => OwnV V0.heap.size 3 1 intC V (.slice p.1 es.length p.2) es
    | 9 => OwnV V0.heap.size 3 1 intC V (.slice p.1 fs.length p.2) fs
    | _ => True
set_option maxHeartbeats 1000000 in
set_option maxRecDepth 100000 in
theorem sReconsider_is (d : Dec) (Y N : Option Addr) (yc nc : Nat) (hy : d.yes.length ≤ 1048576) (hn : d.no.length ≤ 1048576) (E : Option Addr) (ec : Nat) (es : List Int) (he : es.length ≤ 1048576) (F : Option Addr) (fc : Nat) (fs : List Int) (hf : fs.length ≤ 1048576) (w : World)
    (hRy : Rds 1 intC w Y d.yes) (hRn : Rds 1 intC w N d.no) (hRe : Rds 1 intC w E es) (hRf : Rds 1 intC w F fs) (_ : Y = none → d.yes = [] ∧ yc = 0) (_ : N = none → d.no = [] ∧ nc = 0) (hEn : E = none → es = [] ∧ ec = 0) (hFn : F = none → fs = [] ∧ fc = 0) :
  Calls Try.prog 16 #[.agg #[.int .i64 d.id, .int .i64 d.day, .int .i64 d.need, .slice Y d.yes.length yc, .slice N d.no.length nc, .bool d.done], .slice E es.length ec, .slice F fs.length fc] w
    fun e w' => ∃ Y' yc' N' nc', e = .returned (.tuple #[.agg #[.int .i64 (reD d es fs).id, .int .i64 (reD d es fs).day, .int .i64 (reD d es fs).need, .slice Y' (reD d es fs).yes.length yc', .slice N' (reD d es fs).no.length nc', .bool (reD d es fs).done], .bool (reOk d es fs)]) ∧ OwnV w.heap.size 3 1 intC w' (.slice Y' (reD d es fs).yes.length yc') (reD d es fs).yes ∧ OwnV w.heap.size 3 1 intC w' (.slice N' (reD d es fs).no.length nc') (reD d es fs).no ∧ Apart [.slice Y' (reD d es fs).yes.length yc', .slice N' (reD d es fs).no.length nc'] ∧ Below w.heap.size w w' := by
  have hno : ∀ b, reOk d es fs = false → b = reD d es fs → b = ⟨0, 0, 0, [], [], false⟩ := fun b h e => by rw [e, reD, h]; rfl
  have hcase : reOk d es fs = false ∨ (decB d = true ∧ d.done = false ∧ sidesB es fs = true) := by
    unfold reOk; cases decB d <;> cases d.done <;> cases sidesB es fs <;> simp
  cases hd : decB d
  · have h1 : reOk d es fs = false := by simp [reOk, hd]
    have h2 := hno _ h1 rfl
    have H1 := Lib.hid h1; have H2 := Lib.hid h2; have HD := Lib.hid hd; clear h1 h2 hd hno hcase hEn hFn
    go_enter Try.func16, Try.ntmps16
    go_wp2_with fail
    refine (l18Good_is d Y N yc nc hy hn _ HD.out _ (hRy.below (by repeat (first | exact Below.refl _ _ | refine Below.alloc ?_ (by first | exact Nat.le_refl _ | (simp <;> omega)) _ | refine Below.setCell ?_ (by first | exact Nat.le_refl _ | (simp <;> omega)) _))) (hRn.below (by repeat (first | exact Below.refl _ _ | refine Below.alloc ?_ (by first | exact Nat.le_refl _ | (simp <;> omega)) _ | refine Below.setCell ?_ (by first | exact Nat.le_refl _ | (simp <;> omega)) _)))).mono ?_
    rintro e w1 ⟨rfl, hb1⟩
    have hq1 : Below w.heap.size w w1 := bth (by repeat (first | exact Below.refl _ _ | refine Below.alloc ?_ (by first | exact Nat.le_refl _ | (simp <;> omega)) _ | refine Below.setCell ?_ (by first | exact Nat.le_refl _ | (simp <;> omega)) _)) hb1
    have HB : Below w.heap.size w w1 := hq1
    replace hRy := hRy.below hq1
    replace hRn := hRn.below hq1
    have hZ : Blk w1 ((w.heap.size + 1)) 28 #[.int .i64 0, .int .i64 0, .int .i64 0, .slice none 0 0, .slice none 0 0, .bool false] := Blk.below (by repeat (first | exact Blk.new _ _ _ | exact Blk.new2 _ _ _ _ | exact Blk.new3 _ _ _ _ _ | exact Blk.new4 _ _ _ _ _ _ | refine Blk.alloc ?_ _)) hb1 (by simp <;> omega)
    have z0 := (hZ.cell 0).trans (show _ = some (.int .i64 0) from rfl)
    have z1 := (hZ.cell 1).trans (show _ = some (.int .i64 0) from rfl)
    have z2 := (hZ.cell 2).trans (show _ = some (.int .i64 0) from rfl)
    have z3 := (hZ.cell 3).trans (show _ = some (.slice none 0 0) from rfl)
    have z4 := (hZ.cell 4).trans (show _ = some (.slice none 0 0) from rfl)
    have z5 := (hZ.cell 5).trans (show _ = some (.bool false) from rfl)
    have yhZ0 := hZ.frozen 0
    have yhZ1 := hZ.frozen 1
    have yhZ2 := hZ.frozen 2
    have yhZ3 := hZ.frozen 3
    have yhZ4 := hZ.frozen 4
    have yhZ5 := hZ.frozen 5
    have hF := ((((((hZ.set_ 0 (.int .i64 0)).set_ 1 (.int .i64 0)).set_ 2 (.int .i64 0)).set_ 3 (.slice none 0 0)).set_ 4 (.slice none 0 0)).set_ 5 (.bool false))
    have r0 := (hF.cell 0).trans (show _ = some (.int .i64 0) from rfl)
    have r1 := (hF.cell 1).trans (show _ = some (.int .i64 0) from rfl)
    have r2 := (hF.cell 2).trans (show _ = some (.int .i64 0) from rfl)
    have r3 := (hF.cell 3).trans (show _ = some (.slice none 0 0) from rfl)
    have r4 := (hF.cell 4).trans (show _ = some (.slice none 0 0) from rfl)
    have r5 := (hF.cell 5).trans (show _ = some (.bool false) from rfl)
    have hEW := ((((((HB.setCell (by show w.heap.size ≤ (w.heap.size + 1); omega) (.int .i64 0) (p := ⟨(w.heap.size + 1), 0, none⟩)).setCell (by show w.heap.size ≤ (w.heap.size + 1); omega) (.int .i64 0) (p := ⟨(w.heap.size + 1), 1, none⟩)).setCell (by show w.heap.size ≤ (w.heap.size + 1); omega) (.int .i64 0) (p := ⟨(w.heap.size + 1), 2, none⟩)).setCell (by show w.heap.size ≤ (w.heap.size + 1); omega) (.slice none 0 0) (p := ⟨(w.heap.size + 1), 3, none⟩)).setCell (by show w.heap.size ≤ (w.heap.size + 1); omega) (.slice none 0 0) (p := ⟨(w.heap.size + 1), 4, none⟩)).setCell (by show w.heap.size ≤ (w.heap.size + 1); omega) (.bool false) (p := ⟨(w.heap.size + 1), 5, none⟩))
    have yhZ := hZ.lt
    go_wp2
    refine bodyPost_ret (v := .tuple #[.agg #[.int .i64 0, .int .i64 0, .int .i64 0, .slice none 0 0, .slice none 0 0, .bool false], .bool false]) (by simp [results, Try.results16, go_sem, r0, r1, r2, r3, r4, r5]) rfl ?_
    rw [H1.out, H2.out]
    exact ⟨none, 0, none, 0, rfl, OwnV.nil, OwnV.nil, apart2 (fun k h => by cases h), hEW⟩
  rcases Bool.eq_false_or_eq_true d.done with hdn | hdn
  case inl =>
    have h1 : reOk d es fs = false := by simp [reOk, hdn]
    have h2 := hno _ h1 rfl
    have HDN := Lib.hid hdn; have H1 := Lib.hid h1; have H2 := Lib.hid h2; have HD := Lib.hid hd; clear hdn h1 h2 hd hno hcase hEn hFn
    go_enter Try.func16, Try.ntmps16
    go_wp2_with fail
    refine (l18Good_is d Y N yc nc hy hn _ HD.out _ (hRy.below (by repeat (first | exact Below.refl _ _ | refine Below.alloc ?_ (by first | exact Nat.le_refl _ | (simp <;> omega)) _ | refine Below.setCell ?_ (by first | exact Nat.le_refl _ | (simp <;> omega)) _))) (hRn.below (by repeat (first | exact Below.refl _ _ | refine Below.alloc ?_ (by first | exact Nat.le_refl _ | (simp <;> omega)) _ | refine Below.setCell ?_ (by first | exact Nat.le_refl _ | (simp <;> omega)) _)))).mono ?_
    rintro e w1 ⟨rfl, hb1⟩
    have hq1 : Below w.heap.size w w1 := bth (by repeat (first | exact Below.refl _ _ | refine Below.alloc ?_ (by first | exact Nat.le_refl _ | (simp <;> omega)) _ | refine Below.setCell ?_ (by first | exact Nat.le_refl _ | (simp <;> omega)) _)) hb1
    have HB : Below w.heap.size w w1 := hq1
    replace hRy := hRy.below hq1
    replace hRn := hRn.below hq1
    have hdn := HDN.out
    have hX : Blk w1 (w.heap.size) 28 #[.int .i64 d.id, .int .i64 d.day, .int .i64 d.need, .slice Y d.yes.length yc, .slice N d.no.length nc, .bool d.done] := Blk.below (by repeat (first | exact Blk.new _ _ _ | exact Blk.new2 _ _ _ _ | exact Blk.new3 _ _ _ _ _ | exact Blk.new4 _ _ _ _ _ _ | refine Blk.alloc ?_ _)) hb1 (by simp <;> omega)
    have x0 := (hX.cell 0).trans (show _ = some (.int .i64 d.id) from rfl)
    have x1 := (hX.cell 1).trans (show _ = some (.int .i64 d.day) from rfl)
    have x2 := (hX.cell 2).trans (show _ = some (.int .i64 d.need) from rfl)
    have x3 := (hX.cell 3).trans (show _ = some (.slice Y d.yes.length yc) from rfl)
    have x4 := (hX.cell 4).trans (show _ = some (.slice N d.no.length nc) from rfl)
    have x5 := (hX.cell 5).trans (show _ = some (.bool d.done) from rfl)
    have hZ : Blk w1 ((w.heap.size + 1)) 28 #[.int .i64 0, .int .i64 0, .int .i64 0, .slice none 0 0, .slice none 0 0, .bool false] := Blk.below (by repeat (first | exact Blk.new _ _ _ | exact Blk.new2 _ _ _ _ | exact Blk.new3 _ _ _ _ _ | exact Blk.new4 _ _ _ _ _ _ | refine Blk.alloc ?_ _)) hb1 (by simp <;> omega)
    have z0 := (hZ.cell 0).trans (show _ = some (.int .i64 0) from rfl)
    have z1 := (hZ.cell 1).trans (show _ = some (.int .i64 0) from rfl)
    have z2 := (hZ.cell 2).trans (show _ = some (.int .i64 0) from rfl)
    have z3 := (hZ.cell 3).trans (show _ = some (.slice none 0 0) from rfl)
    have z4 := (hZ.cell 4).trans (show _ = some (.slice none 0 0) from rfl)
    have z5 := (hZ.cell 5).trans (show _ = some (.bool false) from rfl)
    have yhZ0 := hZ.frozen 0
    have yhZ1 := hZ.frozen 1
    have yhZ2 := hZ.frozen 2
    have yhZ3 := hZ.frozen 3
    have yhZ4 := hZ.frozen 4
    have yhZ5 := hZ.frozen 5
    have hF := ((((((hZ.set_ 0 (.int .i64 0)).set_ 1 (.int .i64 0)).set_ 2 (.int .i64 0)).set_ 3 (.slice none 0 0)).set_ 4 (.slice none 0 0)).set_ 5 (.bool false))
    have r0 := (hF.cell 0).trans (show _ = some (.int .i64 0) from rfl)
    have r1 := (hF.cell 1).trans (show _ = some (.int .i64 0) from rfl)
    have r2 := (hF.cell 2).trans (show _ = some (.int .i64 0) from rfl)
    have r3 := (hF.cell 3).trans (show _ = some (.slice none 0 0) from rfl)
    have r4 := (hF.cell 4).trans (show _ = some (.slice none 0 0) from rfl)
    have r5 := (hF.cell 5).trans (show _ = some (.bool false) from rfl)
    have hEW := ((((((HB.setCell (by show w.heap.size ≤ (w.heap.size + 1); omega) (.int .i64 0) (p := ⟨(w.heap.size + 1), 0, none⟩)).setCell (by show w.heap.size ≤ (w.heap.size + 1); omega) (.int .i64 0) (p := ⟨(w.heap.size + 1), 1, none⟩)).setCell (by show w.heap.size ≤ (w.heap.size + 1); omega) (.int .i64 0) (p := ⟨(w.heap.size + 1), 2, none⟩)).setCell (by show w.heap.size ≤ (w.heap.size + 1); omega) (.slice none 0 0) (p := ⟨(w.heap.size + 1), 3, none⟩)).setCell (by show w.heap.size ≤ (w.heap.size + 1); omega) (.slice none 0 0) (p := ⟨(w.heap.size + 1), 4, none⟩)).setCell (by show w.heap.size ≤ (w.heap.size + 1); omega) (.bool false) (p := ⟨(w.heap.size + 1), 5, none⟩))
    have yhX := hX.lt
    have yhZ := hZ.lt
    go_wp2
    refine bodyPost_ret (v := .tuple #[.agg #[.int .i64 0, .int .i64 0, .int .i64 0, .slice none 0 0, .slice none 0 0, .bool false], .bool false]) (by simp [results, Try.results16, go_sem, r0, r1, r2, r3, r4, r5]) rfl ?_
    rw [H1.out, H2.out]
    exact ⟨none, 0, none, 0, rfl, OwnV.nil, OwnV.nil, apart2 (fun k h => by cases h), hEW⟩
  cases hs : sidesB es fs
  · have h1 : reOk d es fs = false := by simp [reOk, hs]
    have h2 := hno _ h1 rfl
    have HDN := Lib.hid hdn; have H1 := Lib.hid h1; have H2 := Lib.hid h2; have HD := Lib.hid hd; have HS := Lib.hid hs; clear hdn h1 h2 hd hs hno hcase hEn hFn
    go_enter Try.func16, Try.ntmps16
    go_wp2_with fail
    refine (l18Good_is d Y N yc nc hy hn _ HD.out _ (hRy.below (by repeat (first | exact Below.refl _ _ | refine Below.alloc ?_ (by first | exact Nat.le_refl _ | (simp <;> omega)) _ | refine Below.setCell ?_ (by first | exact Nat.le_refl _ | (simp <;> omega)) _))) (hRn.below (by repeat (first | exact Below.refl _ _ | refine Below.alloc ?_ (by first | exact Nat.le_refl _ | (simp <;> omega)) _ | refine Below.setCell ?_ (by first | exact Nat.le_refl _ | (simp <;> omega)) _)))).mono ?_
    rintro e w1 ⟨rfl, hb1⟩
    have hq1 : Below w.heap.size w w1 := bth (by repeat (first | exact Below.refl _ _ | refine Below.alloc ?_ (by first | exact Nat.le_refl _ | (simp <;> omega)) _ | refine Below.setCell ?_ (by first | exact Nat.le_refl _ | (simp <;> omega)) _)) hb1
    have HB : Below w.heap.size w w1 := hq1
    replace hRy := hRy.below hq1
    replace hRn := hRn.below hq1
    replace hRe := hRe.below hq1
    replace hRf := hRf.below hq1
    have hdn := HDN.out
    have hX : Blk w1 (w.heap.size) 28 #[.int .i64 d.id, .int .i64 d.day, .int .i64 d.need, .slice Y d.yes.length yc, .slice N d.no.length nc, .bool d.done] := Blk.below (by repeat (first | exact Blk.new _ _ _ | exact Blk.new2 _ _ _ _ | exact Blk.new3 _ _ _ _ _ | exact Blk.new4 _ _ _ _ _ _ | refine Blk.alloc ?_ _)) hb1 (by simp <;> omega)
    have x0 := (hX.cell 0).trans (show _ = some (.int .i64 d.id) from rfl)
    have x1 := (hX.cell 1).trans (show _ = some (.int .i64 d.day) from rfl)
    have x2 := (hX.cell 2).trans (show _ = some (.int .i64 d.need) from rfl)
    have x3 := (hX.cell 3).trans (show _ = some (.slice Y d.yes.length yc) from rfl)
    have x4 := (hX.cell 4).trans (show _ = some (.slice N d.no.length nc) from rfl)
    have x5 := (hX.cell 5).trans (show _ = some (.bool d.done) from rfl)
    have hZ : Blk w1 ((w.heap.size + 1)) 28 #[.int .i64 0, .int .i64 0, .int .i64 0, .slice none 0 0, .slice none 0 0, .bool false] := Blk.below (by repeat (first | exact Blk.new _ _ _ | exact Blk.new2 _ _ _ _ | exact Blk.new3 _ _ _ _ _ | exact Blk.new4 _ _ _ _ _ _ | refine Blk.alloc ?_ _)) hb1 (by simp <;> omega)
    have z0 := (hZ.cell 0).trans (show _ = some (.int .i64 0) from rfl)
    have z1 := (hZ.cell 1).trans (show _ = some (.int .i64 0) from rfl)
    have z2 := (hZ.cell 2).trans (show _ = some (.int .i64 0) from rfl)
    have z3 := (hZ.cell 3).trans (show _ = some (.slice none 0 0) from rfl)
    have z4 := (hZ.cell 4).trans (show _ = some (.slice none 0 0) from rfl)
    have z5 := (hZ.cell 5).trans (show _ = some (.bool false) from rfl)
    go_wp2_with fail
    refine (l18Lists_is E F ec fc es fs he hf _ HS.out _ (hRe.below (by repeat (first | exact Below.refl _ _ | refine Below.alloc ?_ (by first | exact Nat.le_refl _ | (simp <;> omega)) _ | refine Below.setCell ?_ (by first | exact Nat.le_refl _ | (simp <;> omega)) _))) (hRf.below (by repeat (first | exact Below.refl _ _ | refine Below.alloc ?_ (by first | exact Nat.le_refl _ | (simp <;> omega)) _ | refine Below.setCell ?_ (by first | exact Nat.le_refl _ | (simp <;> omega)) _)))).mono ?_
    rintro e w2 ⟨rfl, hb2⟩
    have hq2 : Below w1.heap.size w1 w2 := bth (by repeat (first | exact Below.refl _ _ | refine Below.alloc ?_ (by first | exact Nat.le_refl _ | (simp <;> omega)) _ | refine Below.setCell ?_ (by first | exact Nat.le_refl _ | (simp <;> omega)) _)) hb2
    replace HB := bth HB hq2
    replace hRy := hRy.below hq2
    replace hRn := hRn.below hq2
    replace hRe := hRe.below hq2
    replace hRf := hRf.below hq2
    replace hX := hX.below hq2 hX.lt
    replace x0 := (hX.cell 0).trans (show _ = some (.int .i64 d.id) from rfl)
    replace x1 := (hX.cell 1).trans (show _ = some (.int .i64 d.day) from rfl)
    replace x2 := (hX.cell 2).trans (show _ = some (.int .i64 d.need) from rfl)
    replace x3 := (hX.cell 3).trans (show _ = some (.slice Y d.yes.length yc) from rfl)
    replace x4 := (hX.cell 4).trans (show _ = some (.slice N d.no.length nc) from rfl)
    replace x5 := (hX.cell 5).trans (show _ = some (.bool d.done) from rfl)
    replace hZ := hZ.below hq2 hZ.lt
    replace z0 := (hZ.cell 0).trans (show _ = some (.int .i64 0) from rfl)
    replace z1 := (hZ.cell 1).trans (show _ = some (.int .i64 0) from rfl)
    replace z2 := (hZ.cell 2).trans (show _ = some (.int .i64 0) from rfl)
    replace z3 := (hZ.cell 3).trans (show _ = some (.slice none 0 0) from rfl)
    replace z4 := (hZ.cell 4).trans (show _ = some (.slice none 0 0) from rfl)
    replace z5 := (hZ.cell 5).trans (show _ = some (.bool false) from rfl)
    have yhZ0 := hZ.frozen 0
    have yhZ1 := hZ.frozen 1
    have yhZ2 := hZ.frozen 2
    have yhZ3 := hZ.frozen 3
    have yhZ4 := hZ.frozen 4
    have yhZ5 := hZ.frozen 5
    have hF := ((((((hZ.set_ 0 (.int .i64 0)).set_ 1 (.int .i64 0)).set_ 2 (.int .i64 0)).set_ 3 (.slice none 0 0)).set_ 4 (.slice none 0 0)).set_ 5 (.bool false))
    have r0 := (hF.cell 0).trans (show _ = some (.int .i64 0) from rfl)
    have r1 := (hF.cell 1).trans (show _ = some (.int .i64 0) from rfl)
    have r2 := (hF.cell 2).trans (show _ = some (.int .i64 0) from rfl)
    have r3 := (hF.cell 3).trans (show _ = some (.slice none 0 0) from rfl)
    have r4 := (hF.cell 4).trans (show _ = some (.slice none 0 0) from rfl)
    have r5 := (hF.cell 5).trans (show _ = some (.bool false) from rfl)
    have hEW := ((((((HB.setCell (by show w.heap.size ≤ (w.heap.size + 1); omega) (.int .i64 0) (p := ⟨(w.heap.size + 1), 0, none⟩)).setCell (by show w.heap.size ≤ (w.heap.size + 1); omega) (.int .i64 0) (p := ⟨(w.heap.size + 1), 1, none⟩)).setCell (by show w.heap.size ≤ (w.heap.size + 1); omega) (.int .i64 0) (p := ⟨(w.heap.size + 1), 2, none⟩)).setCell (by show w.heap.size ≤ (w.heap.size + 1); omega) (.slice none 0 0) (p := ⟨(w.heap.size + 1), 3, none⟩)).setCell (by show w.heap.size ≤ (w.heap.size + 1); omega) (.slice none 0 0) (p := ⟨(w.heap.size + 1), 4, none⟩)).setCell (by show w.heap.size ≤ (w.heap.size + 1); omega) (.bool false) (p := ⟨(w.heap.size + 1), 5, none⟩))
    have yhX := hX.lt
    have yhZ := hZ.lt
    go_wp2
    refine bodyPost_ret (v := .tuple #[.agg #[.int .i64 0, .int .i64 0, .int .i64 0, .slice none 0 0, .slice none 0 0, .bool false], .bool false]) (by simp [results, Try.results16, go_sem, r0, r1, r2, r3, r4, r5]) rfl ?_
    rw [H1.out, H2.out]
    exact ⟨none, 0, none, 0, rfl, OwnV.nil, OwnV.nil, apart2 (fun k h => by cases h), hEW⟩
  · have h1 : reOk d es fs = true := by simp [reOk, hs, hd, hdn]
    have h2 : reD d es fs = ⟨d.id, d.day, d.need, es, fs, true⟩ := by rw [reD, h1]; rfl
    have HDN := Lib.hid hdn; have H1 := Lib.hid h1; have H2 := Lib.hid h2; have HD := Lib.hid hd; have HS := Lib.hid hs; clear hdn h1 h2 hd hs hno hcase
    have hRe1 := hRe; have hRf1 := hRf
    go_enter Try.func16, Try.ntmps16
    go_wp2_with fail
    refine (l18Good_is d Y N yc nc hy hn _ HD.out _ (hRy.below (by repeat (first | exact Below.refl _ _ | refine Below.alloc ?_ (by first | exact Nat.le_refl _ | (simp <;> omega)) _ | refine Below.setCell ?_ (by first | exact Nat.le_refl _ | (simp <;> omega)) _))) (hRn.below (by repeat (first | exact Below.refl _ _ | refine Below.alloc ?_ (by first | exact Nat.le_refl _ | (simp <;> omega)) _ | refine Below.setCell ?_ (by first | exact Nat.le_refl _ | (simp <;> omega)) _)))).mono ?_
    rintro e w1 ⟨rfl, hb1⟩
    have hq1 : Below w.heap.size w w1 := bth (by repeat (first | exact Below.refl _ _ | refine Below.alloc ?_ (by first | exact Nat.le_refl _ | (simp <;> omega)) _ | refine Below.setCell ?_ (by first | exact Nat.le_refl _ | (simp <;> omega)) _)) hb1
    have HB : Below w.heap.size w w1 := hq1
    replace hRy := hRy.below hq1
    replace hRn := hRn.below hq1
    replace hRe := hRe.below hq1
    replace hRf := hRf.below hq1
    have hdn := HDN.out
    have hX : Blk w1 (w.heap.size) 28 #[.int .i64 d.id, .int .i64 d.day, .int .i64 d.need, .slice Y d.yes.length yc, .slice N d.no.length nc, .bool d.done] := Blk.below (by repeat (first | exact Blk.new _ _ _ | exact Blk.new2 _ _ _ _ | exact Blk.new3 _ _ _ _ _ | exact Blk.new4 _ _ _ _ _ _ | refine Blk.alloc ?_ _)) hb1 (by simp <;> omega)
    have x0 := (hX.cell 0).trans (show _ = some (.int .i64 d.id) from rfl)
    have x1 := (hX.cell 1).trans (show _ = some (.int .i64 d.day) from rfl)
    have x2 := (hX.cell 2).trans (show _ = some (.int .i64 d.need) from rfl)
    have x3 := (hX.cell 3).trans (show _ = some (.slice Y d.yes.length yc) from rfl)
    have x4 := (hX.cell 4).trans (show _ = some (.slice N d.no.length nc) from rfl)
    have x5 := (hX.cell 5).trans (show _ = some (.bool d.done) from rfl)
    have hZ : Blk w1 ((w.heap.size + 1)) 28 #[.int .i64 0, .int .i64 0, .int .i64 0, .slice none 0 0, .slice none 0 0, .bool false] := Blk.below (by repeat (first | exact Blk.new _ _ _ | exact Blk.new2 _ _ _ _ | exact Blk.new3 _ _ _ _ _ | exact Blk.new4 _ _ _ _ _ _ | refine Blk.alloc ?_ _)) hb1 (by simp <;> omega)
    have z0 := (hZ.cell 0).trans (show _ = some (.int .i64 0) from rfl)
    have z1 := (hZ.cell 1).trans (show _ = some (.int .i64 0) from rfl)
    have z2 := (hZ.cell 2).trans (show _ = some (.int .i64 0) from rfl)
    have z3 := (hZ.cell 3).trans (show _ = some (.slice none 0 0) from rfl)
    have z4 := (hZ.cell 4).trans (show _ = some (.slice none 0 0) from rfl)
    have z5 := (hZ.cell 5).trans (show _ = some (.bool false) from rfl)
    go_wp2_with fail
    refine (l18Lists_is E F ec fc es fs he hf _ HS.out _ (hRe.below (by repeat (first | exact Below.refl _ _ | refine Below.alloc ?_ (by first | exact Nat.le_refl _ | (simp <;> omega)) _ | refine Below.setCell ?_ (by first | exact Nat.le_refl _ | (simp <;> omega)) _))) (hRf.below (by repeat (first | exact Below.refl _ _ | refine Below.alloc ?_ (by first | exact Nat.le_refl _ | (simp <;> omega)) _ | refine Below.setCell ?_ (by first | exact Nat.le_refl _ | (simp <;> omega)) _)))).mono ?_
    rintro e w2 ⟨rfl, hb2⟩
    have hq2 : Below w1.heap.size w1 w2 := bth (by repeat (first | exact Below.refl _ _ | refine Below.alloc ?_ (by first | exact Nat.le_refl _ | (simp <;> omega)) _ | refine Below.setCell ?_ (by first | exact Nat.le_refl _ | (simp <;> omega)) _)) hb2
    replace HB := bth HB hq2
    replace hRy := hRy.below hq2
    replace hRn := hRn.below hq2
    replace hRe := hRe.below hq2
    replace hRf := hRf.below hq2
    replace hX := hX.below hq2 hX.lt
    replace x0 := (hX.cell 0).trans (show _ = some (.int .i64 d.id) from rfl)
    replace x1 := (hX.cell 1).trans (show _ = some (.int .i64 d.day) from rfl)
    replace x2 := (hX.cell 2).trans (show _ = some (.int .i64 d.need) from rfl)
    replace x3 := (hX.cell 3).trans (show _ = some (.slice Y d.yes.length yc) from rfl)
    replace x4 := (hX.cell 4).trans (show _ = some (.slice N d.no.length nc) from rfl)
    replace x5 := (hX.cell 5).trans (show _ = some (.bool d.done) from rfl)
    replace hZ := hZ.below hq2 hZ.lt
    replace z0 := (hZ.cell 0).trans (show _ = some (.int .i64 0) from rfl)
    replace z1 := (hZ.cell 1).trans (show _ = some (.int .i64 0) from rfl)
    replace z2 := (hZ.cell 2).trans (show _ = some (.int .i64 0) from rfl)
    replace z3 := (hZ.cell 3).trans (show _ = some (.slice none 0 0) from rfl)
    replace z4 := (hZ.cell 4).trans (show _ = some (.slice none 0 0) from rfl)
    replace z5 := (hZ.cell 5).trans (show _ = some (.bool false) from rfl)
    clear hdn
    have hs2 := hZ.lt
    obtain ⟨CC3, hCC3⟩ : ∃ X : World → Prop, ∀ V, X V ↔ (Below w.heap.size w V ∧ Blk V (w.heap.size) 28 #[.int .i64 d.id, .int .i64 d.day, .int .i64 d.need, .slice Y d.yes.length yc, .slice N d.no.length nc, .bool d.done]) := ⟨_, fun _ => Iff.rfl⟩
    have HCC3 := Lib.hid hCC3; clear hCC3
    haveI : Nonempty (Hld CC3) := ⟨⟨w2, ((HCC3.out _).2 ⟨HB, hX⟩)⟩⟩
    clear x0 x1 x2 x3 x4 x5
    clear z0 z1 z2 z3 z4 z5
    have x0 := fun K : Hld CC3 => (((HCC3.out _).1 K.holds).2.cell 0).trans (show _ = some (.int .i64 d.id) from rfl)
    have x1 := fun K : Hld CC3 => (((HCC3.out _).1 K.holds).2.cell 1).trans (show _ = some (.int .i64 d.day) from rfl)
    have x2 := fun K : Hld CC3 => (((HCC3.out _).1 K.holds).2.cell 2).trans (show _ = some (.int .i64 d.need) from rfl)
    have x3 := fun K : Hld CC3 => (((HCC3.out _).1 K.holds).2.cell 3).trans (show _ = some (.slice Y d.yes.length yc) from rfl)
    have x4 := fun K : Hld CC3 => (((HCC3.out _).1 K.holds).2.cell 4).trans (show _ = some (.slice N d.no.length nc) from rfl)
    have x5 := fun K : Hld CC3 => (((HCC3.out _).1 K.holds).2.cell 5).trans (show _ = some (.bool d.done) from rfl)
    go_wp2
    refine wp_region_mk (sReS es fs) CC3 [([6], 7), ([8], 9)] [0, 1, 2, 3, 4, 5, 10] [([], 11)] [12] (by kernel_rfl) (by kernel_rfl) ((HCC3.out _).2 ⟨HB.drew, hX⟩) (fun W W' h k => ((HCC3.out _).2 ⟨((HCC3.out _).1 h).1.trans (k.mono ((HCC3.out _).1 h).1.size), ((HCC3.out _).1 h).2.below k ((HCC3.out _).1 h).2.lt⟩)) ?_
    intro σ
    refine wpMk1_cons (some 29) rfl (.slice (σ 7).1 es.length (σ 7).2) rfl fun K1 hK1 => ?_
    change wpQuiet _ _ _ _ (_ :: []) _
    repeat (go_big_quiet_step (fail))
    refine wpQuiet_nil ?_
    refine ⟨fun k hpar => ?_, hK1 _ ?_⟩
    · change wpList _ _ _ (_ :: []) _ _
      go_wp2_with fail
      refine (l1Own_is E ec es he hEn _ (hRe1.below ((HCC3.out _).1 k.holds).1)).mono ?_
      rintro e w9 ⟨A9, c9, rfl, hO9, hb9⟩
      go_wp2
      exact Nrm_mk ⟨(A9, c9), rfl, hb9, hO9⟩
    simp only [Act.put]
    go_simp
    refine wpMk1_cons (some 31) rfl (.slice (σ 9).1 fs.length (σ 9).2) rfl fun K1 hK1 => ?_
    change wpQuiet _ _ _ _ (_ :: []) _
    repeat (go_big_quiet_step (fail))
    refine wpQuiet_nil ?_
    refine ⟨fun k hpar => ?_, hK1 _ ?_⟩
    · change wpList _ _ _ (_ :: []) _ _
      go_wp2_with fail
      refine (l1Own_is F fc fs hf hFn _ (hRf1.below ((HCC3.out _).1 k.holds).1)).mono ?_
      rintro e w9 ⟨A9, c9, rfl, hO9, hb9⟩
      go_wp2
      exact Nrm_mk ⟨(A9, c9), rfl, hb9, hO9⟩
    simp only [Act.put]
    go_simp
    refine wpMk1_last ?_
    change wpQuiet _ _ _ _ (_ :: _ :: _ :: _ :: _ :: _ :: _ :: []) _
    repeat (go_big_quiet_step (fail))
    refine wpQuiet_nil ?_
    intro V0 V W hM hW
    have hO7 : OwnV (V0 7).heap.size 3 1 intC (V 7) (.slice (σ 7).1 es.length (σ 7).2) es := hM.post 7 (by simp)
    have hO9 : OwnV (V0 9).heap.size 3 1 intC (V 9) (.slice (σ 9).1 fs.length (σ 9).2) fs := hM.post 9 (by simp)
    have hap := own_apart hO7 hO9 (hM.apart 7 (by simp) 9 (by simp) (by decide))
    have hz7 := (hM.from0 7 (by simp)).size
    have hz9 := (hM.from0 9 (by simp)).size
    have hO7' := (hO7.later (hM.later 7 (by simp))).base (B' := w2.heap.size) hz7
    have hO9' := (hO9.later (hM.later 9 (by simp))).base (B' := w2.heap.size) hz9
    clear x0 x1 x2 x3 x4 x5
    have hq4 : Below w2.heap.size w2 W := bth (by repeat (first | exact Below.refl _ _ | refine Below.alloc ?_ (by first | exact Nat.le_refl _ | (simp <;> omega)) _ | refine Below.setCell ?_ (by first | exact Nat.le_refl _ | (simp <;> omega)) _)) (hM.whole 7 (by simp)).undrew
    replace HB := bth HB hq4
    replace hRy := hRy.below hq4
    replace hRn := hRn.below hq4
    replace hRe := hRe.below hq4
    replace hRf := hRf.below hq4
    replace hX := hX.below hq4 hX.lt
    have x0 := (hX.cell 0).trans (show _ = some (.int .i64 d.id) from rfl)
    have x1 := (hX.cell 1).trans (show _ = some (.int .i64 d.day) from rfl)
    have x2 := (hX.cell 2).trans (show _ = some (.int .i64 d.need) from rfl)
    have x3 := (hX.cell 3).trans (show _ = some (.slice Y d.yes.length yc) from rfl)
    have x4 := (hX.cell 4).trans (show _ = some (.slice N d.no.length nc) from rfl)
    have x5 := (hX.cell 5).trans (show _ = some (.bool d.done) from rfl)
    replace hZ := hZ.below hq4 hZ.lt
    have z0 := (hZ.cell 0).trans (show _ = some (.int .i64 0) from rfl)
    have z1 := (hZ.cell 1).trans (show _ = some (.int .i64 0) from rfl)
    have z2 := (hZ.cell 2).trans (show _ = some (.int .i64 0) from rfl)
    have z3 := (hZ.cell 3).trans (show _ = some (.slice none 0 0) from rfl)
    have z4 := (hZ.cell 4).trans (show _ = some (.slice none 0 0) from rfl)
    have z5 := (hZ.cell 5).trans (show _ = some (.bool false) from rfl)
    clear hM hO7 hO9 hz7 hz9 hW
    generalize σ 7 = p7 at *
    generalize σ 9 = p9 at *
    obtain ⟨A7, c7⟩ := p7
    obtain ⟨A9, c9⟩ := p9
    have hO7t := hO7'; have hO9t := hO9'
    refine wpMix_cons fun K2 hK2 => ?_
    change wpQuiet _ _ _ _ ([]) _
    refine wpQuiet_nil ?_
    change wpList _ _ _ (_ :: []) _ _
    have fhZ0 := hZ.frozen 0
    have fhZ1 := hZ.frozen 1
    have fhZ2 := hZ.frozen 2
    have fhZ3 := hZ.frozen 3
    have fhZ4 := hZ.frozen 4
    have fhZ5 := hZ.frozen 5
    have yhX := hX.lt
    have yhZ := hZ.lt
    go_wp2
    clear x0 x1 x2 x3 x4 x5 z0 z1 z2 z3 z4 z5
    replace HB : Below w.heap.size w (World.setCell (World.setCell (World.setCell (World.setCell (World.setCell (World.setCell W ⟨(w.heap.size + 1), 0, none⟩ (.int .i64 d.id)) ⟨(w.heap.size + 1), 1, none⟩ (.int .i64 d.day)) ⟨(w.heap.size + 1), 2, none⟩ (.int .i64 d.need)) ⟨(w.heap.size + 1), 3, none⟩ (.slice A7 es.length c7)) ⟨(w.heap.size + 1), 4, none⟩ (.slice A9 fs.length c9)) ⟨(w.heap.size + 1), 5, none⟩ (.bool true)) := ((((((HB.setCell (by show w.heap.size ≤ (w.heap.size + 1); omega) (.int .i64 d.id) (p := ⟨(w.heap.size + 1), 0, none⟩)).setCell (by show w.heap.size ≤ (w.heap.size + 1); omega) (.int .i64 d.day) (p := ⟨(w.heap.size + 1), 1, none⟩)).setCell (by show w.heap.size ≤ (w.heap.size + 1); omega) (.int .i64 d.need) (p := ⟨(w.heap.size + 1), 2, none⟩)).setCell (by show w.heap.size ≤ (w.heap.size + 1); omega) (.slice A7 es.length c7) (p := ⟨(w.heap.size + 1), 3, none⟩)).setCell (by show w.heap.size ≤ (w.heap.size + 1); omega) (.slice A9 fs.length c9) (p := ⟨(w.heap.size + 1), 4, none⟩)).setCell (by show w.heap.size ≤ (w.heap.size + 1); omega) (.bool true) (p := ⟨(w.heap.size + 1), 5, none⟩))
    replace hX := ((((((hX.far' (p := ⟨(w.heap.size + 1), 0, none⟩) (by show _ ≠ (w.heap.size + 1); omega) (.int .i64 d.id)).far' (p := ⟨(w.heap.size + 1), 1, none⟩) (by show _ ≠ (w.heap.size + 1); omega) (.int .i64 d.day)).far' (p := ⟨(w.heap.size + 1), 2, none⟩) (by show _ ≠ (w.heap.size + 1); omega) (.int .i64 d.need)).far' (p := ⟨(w.heap.size + 1), 3, none⟩) (by show _ ≠ (w.heap.size + 1); omega) (.slice A7 es.length c7)).far' (p := ⟨(w.heap.size + 1), 4, none⟩) (by show _ ≠ (w.heap.size + 1); omega) (.slice A9 fs.length c9)).far' (p := ⟨(w.heap.size + 1), 5, none⟩) (by show _ ≠ (w.heap.size + 1); omega) (.bool true))
    replace hZ : Blk (World.setCell (World.setCell (World.setCell (World.setCell (World.setCell (World.setCell W ⟨(w.heap.size + 1), 0, none⟩ (.int .i64 d.id)) ⟨(w.heap.size + 1), 1, none⟩ (.int .i64 d.day)) ⟨(w.heap.size + 1), 2, none⟩ (.int .i64 d.need)) ⟨(w.heap.size + 1), 3, none⟩ (.slice A7 es.length c7)) ⟨(w.heap.size + 1), 4, none⟩ (.slice A9 fs.length c9)) ⟨(w.heap.size + 1), 5, none⟩ (.bool true)) ((w.heap.size + 1)) 28 #[.int .i64 d.id, .int .i64 d.day, .int .i64 d.need, .slice A7 es.length c7, .slice A9 fs.length c9, .bool true] := ((((((hZ.set_ 0 (.int .i64 d.id)).set_ 1 (.int .i64 d.day)).set_ 2 (.int .i64 d.need)).set_ 3 (.slice A7 es.length c7)).set_ 4 (.slice A9 fs.length c9)).set_ 5 (.bool true))
    replace hO7t := hO7t.kept (grown_set (j := 5) (grown_set (j := 4) (grown_set (j := 3) (grown_set (j := 2) (grown_set (j := 1) (grown_set (j := 0) (grown_refl W (some ((w.heap.size + 1)))) (.int .i64 d.id)) (.int .i64 d.day)) (.int .i64 d.need)) (.slice A7 es.length c7)) (.slice A9 fs.length c9)) (.bool true)) (fun k hk e => by have h1 := (hO7t.lt k hk); have h2 : k = (w.heap.size + 1) := (Option.some.inj e); first | omega | exact absurd h2 (nehO7t k hk))
    replace hO9t := hO9t.kept (grown_set (j := 5) (grown_set (j := 4) (grown_set (j := 3) (grown_set (j := 2) (grown_set (j := 1) (grown_set (j := 0) (grown_refl W (some ((w.heap.size + 1)))) (.int .i64 d.id)) (.int .i64 d.day)) (.int .i64 d.need)) (.slice A7 es.length c7)) (.slice A9 fs.length c9)) (.bool true)) (fun k hk e => by have h1 := (hO9t.lt k hk); have h2 : k = (w.heap.size + 1) := (Option.some.inj e); first | omega | exact absurd h2 (nehO9t k hk))
    generalize World.setCell (World.setCell (World.setCell (World.setCell (World.setCell (World.setCell W ⟨(w.heap.size + 1), 0, none⟩ (.int .i64 d.id)) ⟨(w.heap.size + 1), 1, none⟩ (.int .i64 d.day)) ⟨(w.heap.size + 1), 2, none⟩ (.int .i64 d.need)) ⟨(w.heap.size + 1), 3, none⟩ (.slice A7 es.length c7)) ⟨(w.heap.size + 1), 4, none⟩ (.slice A9 fs.length c9)) ⟨(w.heap.size + 1), 5, none⟩ (.bool true) = W3 at *
    have x0 := (hX.cell 0).trans (show _ = some (.int .i64 d.id) from rfl)
    have x1 := (hX.cell 1).trans (show _ = some (.int .i64 d.day) from rfl)
    have x2 := (hX.cell 2).trans (show _ = some (.int .i64 d.need) from rfl)
    have x3 := (hX.cell 3).trans (show _ = some (.slice Y d.yes.length yc) from rfl)
    have x4 := (hX.cell 4).trans (show _ = some (.slice N d.no.length nc) from rfl)
    have x5 := (hX.cell 5).trans (show _ = some (.bool d.done) from rfl)
    have z0 := (hZ.cell 0).trans (show _ = some (.int .i64 d.id) from rfl)
    have z1 := (hZ.cell 1).trans (show _ = some (.int .i64 d.day) from rfl)
    have z2 := (hZ.cell 2).trans (show _ = some (.int .i64 d.need) from rfl)
    have z3 := (hZ.cell 3).trans (show _ = some (.slice A7 es.length c7) from rfl)
    have z4 := (hZ.cell 4).trans (show _ = some (.slice A9 fs.length c9) from rfl)
    have z5 := (hZ.cell 5).trans (show _ = some (.bool true) from rfl)
    refine Nrm_intro (((HCC3.out _).2 ⟨HB, hX⟩)) (hK2 _ _ ?_)
    refine wpMix_last ?_
    change wpQuiet _ _ _ _ (_ :: []) _
    repeat (go_big_quiet_step (fail))
    refine wpQuiet_nil ?_
    go_wp2
    refine bodyPost_ret (v := .tuple #[.agg #[.int .i64 d.id, .int .i64 d.day, .int .i64 d.need, .slice A7 es.length c7, .slice A9 fs.length c9, .bool true], .bool true]) (by simp [results, Try.results16, go_sem, z0, z1, z2, z3, z4, z5]) rfl ?_
    rw [H1.out, H2.out]
    exact ⟨A7, c7, A9, c9, rfl, hO7t.base (by omega), hO9t.base (by omega), apart2 hap, HB⟩
def iReS (es fs : List Int) : MkSpec (Option Addr × Nat) where
  par := fun _ => []
  val := fun n p => match n with
    | 7 => .slice p.1 es.length p.2
    | 9 => .slice p.1 fs.length p.2
    | 11 => .pointer (some ⟨p.2, 0, none⟩)
    | _ => undef
  post := fun n _ p V0 V => match n with
    | 7 => OwnV V0.heap.size 3 1 intC V (.slice p.1 es.length p.2) es
    | 9 => OwnV V0.heap.size 3 1 intC V (.slice p.1 fs.length p.2) fs
    | 11 => V0.heap.size = p.2 ∧ Blk V p.2 28 #[.int .i64 0, .int .i64 0, .int .i64 0, .slice none 0 0, .slice none 0 0, .bool false]
    | _ => True
set_option maxHeartbeats 1000000 in
set_option maxRecDepth 100000 in
theorem iReconsider_is (d : Dec) (Y N : Option Addr) (yc nc : Nat) (hy : d.yes.length ≤ 1048576) (hn : d.no.length ≤ 1048576) (E : Option Addr) (ec : Nat) (es : List Int) (he : es.length ≤ 1048576) (F : Option Addr) (fc : Nat) (fs : List Int) (hf : fs.length ≤ 1048576) (w : World)
    (hRy : Rds 1 intC w Y d.yes) (hRn : Rds 1 intC w N d.no) (hRe : Rds 1 intC w E es) (hRf : Rds 1 intC w F fs) (_ : Y = none → d.yes = [] ∧ yc = 0) (_ : N = none → d.no = [] ∧ nc = 0) (hEn : E = none → es = [] ∧ ec = 0) (hFn : F = none → fs = [] ∧ fc = 0) :
  Calls Try.prog 18 #[.agg #[.int .i64 d.id, .int .i64 d.day, .int .i64 d.need, .slice Y d.yes.length yc, .slice N d.no.length nc, .bool d.done], .slice E es.length ec, .slice F fs.length fc] w
    fun e w' => ∃ Y' yc' N' nc', e = .returned (.tuple #[.agg #[.int .i64 (reD d es fs).id, .int .i64 (reD d es fs).day, .int .i64 (reD d es fs).need, .slice Y' (reD d es fs).yes.length yc', .slice N' (reD d es fs).no.length nc', .bool (reD d es fs).done], .bool (reOk d es fs)]) ∧ OwnV w.heap.size 3 1 intC w' (.slice Y' (reD d es fs).yes.length yc') (reD d es fs).yes ∧ OwnV w.heap.size 3 1 intC w' (.slice N' (reD d es fs).no.length nc') (reD d es fs).no ∧ Apart [.slice Y' (reD d es fs).yes.length yc', .slice N' (reD d es fs).no.length nc'] ∧ Below w.heap.size w w' := by
  have hno : ∀ b, reOk d es fs = false → b = reD d es fs → b = ⟨0, 0, 0, [], [], false⟩ := fun b h e => by rw [e, reD, h]; rfl
  have hsd : decB d = true → decB ⟨d.id, d.day, d.need, es, fs, true⟩ = sidesB es fs := fun h => by
    simp only [decB, Bool.and_eq_true] at h ⊢
    rw [h.1, h.2.1, h.2.2.1]; simp
  have HNO := Lib.hid hno; have HSD := Lib.hid hsd
  have hRe1 := hRe; have hRf1 := hRf
  clear hno hsd
  have hRy1 := hRy; have hRn1 := hRn
  go_enter Try.func18, Try.ntmps18
  go_upto_region 1 with fail
  have hq1 : Below w.heap.size w (World.alloc (World.alloc w (.cells #[.int .i64 d.id, .int .i64 d.day, .int .i64 d.need, .slice Y d.yes.length yc, .slice N d.no.length nc, .bool d.done] 28)) (.cells #[.int .i64 0, .int .i64 0, .int .i64 0, .slice none 0 0, .slice none 0 0, .bool false] 28)) := bl2 w _ _
  have hX : Blk (World.alloc (World.alloc w (.cells #[.int .i64 d.id, .int .i64 d.day, .int .i64 d.need, .slice Y d.yes.length yc, .slice N d.no.length nc, .bool d.done] 28)) (.cells #[.int .i64 0, .int .i64 0, .int .i64 0, .slice none 0 0, .slice none 0 0, .bool false] 28)) (w.heap.size) 28 #[.int .i64 d.id, .int .i64 d.day, .int .i64 d.need, .slice Y d.yes.length yc, .slice N d.no.length nc, .bool d.done] := by repeat (first | exact Blk.new _ _ _ | exact Blk.new2 _ _ _ _ | exact Blk.new3 _ _ _ _ _ | exact Blk.new4 _ _ _ _ _ _ | refine Blk.alloc ?_ _)
  have hZ : Blk (World.alloc (World.alloc w (.cells #[.int .i64 d.id, .int .i64 d.day, .int .i64 d.need, .slice Y d.yes.length yc, .slice N d.no.length nc, .bool d.done] 28)) (.cells #[.int .i64 0, .int .i64 0, .int .i64 0, .slice none 0 0, .slice none 0 0, .bool false] 28)) (w.heap.size + 1) 28 #[.int .i64 0, .int .i64 0, .int .i64 0, .slice none 0 0, .slice none 0 0, .bool false] := by repeat (first | exact Blk.new _ _ _ | exact Blk.new2 _ _ _ _ | exact Blk.new3 _ _ _ _ _ | exact Blk.new4 _ _ _ _ _ _ | refine Blk.alloc ?_ _)
  replace hRy := hRy.below hq1
  replace hRn := hRn.below hq1
  generalize World.alloc (World.alloc w (.cells #[.int .i64 d.id, .int .i64 d.day, .int .i64 d.need, .slice Y d.yes.length yc, .slice N d.no.length nc, .bool d.done] 28)) (.cells #[.int .i64 0, .int .i64 0, .int .i64 0, .slice none 0 0, .slice none 0 0, .bool false] 28) = w1 at *
  have HB := hq1
  have x0 := (hX.cell 0).trans (show _ = some (.int .i64 d.id) from rfl)
  have x1 := (hX.cell 1).trans (show _ = some (.int .i64 d.day) from rfl)
  have x2 := (hX.cell 2).trans (show _ = some (.int .i64 d.need) from rfl)
  have x3 := (hX.cell 3).trans (show _ = some (.slice Y d.yes.length yc) from rfl)
  have x4 := (hX.cell 4).trans (show _ = some (.slice N d.no.length nc) from rfl)
  have x5 := (hX.cell 5).trans (show _ = some (.bool d.done) from rfl)
  have z0 := (hZ.cell 0).trans (show _ = some (.int .i64 0) from rfl)
  have z1 := (hZ.cell 1).trans (show _ = some (.int .i64 0) from rfl)
  have z2 := (hZ.cell 2).trans (show _ = some (.int .i64 0) from rfl)
  have z3 := (hZ.cell 3).trans (show _ = some (.slice none 0 0) from rfl)
  have z4 := (hZ.cell 4).trans (show _ = some (.slice none 0 0) from rfl)
  have z5 := (hZ.cell 5).trans (show _ = some (.bool false) from rfl)
  have hs2 := hZ.lt
  obtain ⟨CC2, hCC2⟩ : ∃ X : World → Prop, ∀ V, X V ↔ (Below w.heap.size w V ∧ Blk V (w.heap.size) 28 #[.int .i64 d.id, .int .i64 d.day, .int .i64 d.need, .slice Y d.yes.length yc, .slice N d.no.length nc, .bool d.done]) := ⟨_, fun _ => Iff.rfl⟩
  have HCC2 := Lib.hid hCC2; clear hCC2
  haveI : Nonempty (Hld CC2) := ⟨⟨w1, ((HCC2.out _).2 ⟨HB, hX⟩)⟩⟩
  clear x0 x1 x2 x3 x4 x5
  clear z0 z1 z2 z3 z4 z5
  have x0 := fun K : Hld CC2 => (((HCC2.out _).1 K.holds).2.cell 0).trans (show _ = some (.int .i64 d.id) from rfl)
  have x1 := fun K : Hld CC2 => (((HCC2.out _).1 K.holds).2.cell 1).trans (show _ = some (.int .i64 d.day) from rfl)
  have x2 := fun K : Hld CC2 => (((HCC2.out _).1 K.holds).2.cell 2).trans (show _ = some (.int .i64 d.need) from rfl)
  have x3 := fun K : Hld CC2 => (((HCC2.out _).1 K.holds).2.cell 3).trans (show _ = some (.slice Y d.yes.length yc) from rfl)
  have x4 := fun K : Hld CC2 => (((HCC2.out _).1 K.holds).2.cell 4).trans (show _ = some (.slice N d.no.length nc) from rfl)
  have x5 := fun K : Hld CC2 => (((HCC2.out _).1 K.holds).2.cell 5).trans (show _ = some (.bool d.done) from rfl)
  refine wp_region_mk (iReS es fs) CC2 [([6], 7), ([8], 9), ([], 11)] [0, 1, 2, 3, 4, 5, 10] [([], 12)] [] (by kernel_rfl) (by kernel_rfl) ((HCC2.out _).2 ⟨HB.drew, hX⟩) (fun W W' h k => ((HCC2.out _).2 ⟨((HCC2.out _).1 h).1.trans (k.mono ((HCC2.out _).1 h).1.size), ((HCC2.out _).1 h).2.below k ((HCC2.out _).1 h).2.lt⟩)) ?_
  intro σ
  refine wpMk1_cons (some 16) rfl (.slice (σ 7).1 es.length (σ 7).2) rfl fun K1 hK1 => ?_
  change wpQuiet _ _ _ _ (_ :: []) _
  repeat (go_big_quiet_step (fail))
  refine wpQuiet_nil ?_
  refine ⟨fun k hpar => ?_, hK1 _ ?_⟩
  · change wpList _ _ _ (_ :: []) _ _
    go_wp2_with fail
    refine (copyInts_is E ec es he hEn _ (hRe1.below ((HCC2.out _).1 k.holds).1)).mono ?_
    rintro e w9 ⟨A9, c9, rfl, hO9, hb9⟩
    go_wp2
    exact Nrm_mk ⟨(A9, c9), rfl, hb9, hO9⟩
  simp only [Act.put]
  go_simp
  refine wpMk1_cons (some 18) rfl (.slice (σ 9).1 fs.length (σ 9).2) rfl fun K1 hK1 => ?_
  change wpQuiet _ _ _ _ (_ :: []) _
  repeat (go_big_quiet_step (fail))
  refine wpQuiet_nil ?_
  refine ⟨fun k hpar => ?_, hK1 _ ?_⟩
  · change wpList _ _ _ (_ :: []) _ _
    go_wp2_with fail
    refine (copyInts_is F fc fs hf hFn _ (hRf1.below ((HCC2.out _).1 k.holds).1)).mono ?_
    rintro e w9 ⟨A9, c9, rfl, hO9, hb9⟩
    go_wp2
    exact Nrm_mk ⟨(A9, c9), rfl, hb9, hO9⟩
  simp only [Act.put]
  go_simp
  refine wpMk1_cons (some 8) rfl (.pointer (some ⟨(σ 11).2, 0, none⟩)) rfl fun K1 hK1 => ?_
  change wpQuiet _ _ _ _ ([]) _
  refine wpQuiet_nil ?_
  refine ⟨fun k hpar => ?_, hK1 _ ?_⟩
  · change wpList _ _ _ (_ :: []) _ _
    go_wp2
    exact Nrm_mk ⟨(none, k.world.heap.size), rfl, bl1 _ _, rfl, Blk.new _ _ _⟩
  simp only [Act.put]
  go_simp
  refine wpMk1_last ?_
  change wpQuiet _ _ _ _ (_ :: _ :: _ :: _ :: _ :: _ :: _ :: []) _
  repeat (go_big_quiet_step (fail))
  refine wpQuiet_nil ?_
  intro V0 V W hM hW
  have hO7 : OwnV (V0 7).heap.size 3 1 intC (V 7) (.slice (σ 7).1 es.length (σ 7).2) es := hM.post 7 (by simp)
  have hO9 : OwnV (V0 9).heap.size 3 1 intC (V 9) (.slice (σ 9).1 fs.length (σ 9).2) fs := hM.post 9 (by simp)
  obtain ⟨hg, hG⟩ : (V0 11).heap.size = (σ 11).2 ∧ Blk (V 11) (σ 11).2 28 #[.int .i64 0, .int .i64 0, .int .i64 0, .slice none 0 0, .slice none 0 0, .bool false] := hM.post 11 (by simp)
  have hap := own_apart hO7 hO9 (hM.apart 7 (by simp) 9 (by simp) (by decide))
  have hz7 := (hM.from0 7 (by simp)).size
  have hz9 := (hM.from0 9 (by simp)).size
  have hz11 : w1.heap.size ≤ (σ 11).2 := hg ▸ (hM.from0 11 (by simp)).size
  have hne7 : ∀ k, (Value.slice (σ 7).1 es.length (σ 7).2).ownBlock = some k → k ≠ (σ 11).2 := fun k hk => by
    have h1 := hO7.lt k hk; have h2 := hM.apart 7 (by simp) 11 (by simp) (by decide); have h3 := hG.lt; omega
  have hne9 : ∀ k, (Value.slice (σ 9).1 fs.length (σ 9).2).ownBlock = some k → k ≠ (σ 11).2 := fun k hk => by
    have h1 := hO9.lt k hk; have h2 := hM.apart 9 (by simp) 11 (by simp) (by decide); have h3 := hG.lt; omega
  have hO7' := (hO7.later (hM.later 7 (by simp))).base (B' := w1.heap.size) hz7
  have hO9' := (hO9.later (hM.later 9 (by simp))).base (B' := w1.heap.size) hz9
  have hGG := hG.below (hM.later 11 (by simp)) hG.lt
  clear x0 x1 x2 x3 x4 x5
  have hq3 : Below w1.heap.size w1 W := bth (by repeat (first | exact Below.refl _ _ | refine Below.alloc ?_ (by first | exact Nat.le_refl _ | (simp <;> omega)) _ | refine Below.setCell ?_ (by first | exact Nat.le_refl _ | (simp <;> omega)) _)) (hM.whole 7 (by simp)).undrew
  replace HB := bth HB hq3
  replace hRy := hRy.below hq3
  replace hRn := hRn.below hq3
  replace hX := hX.below hq3 hX.lt
  have x0 := (hX.cell 0).trans (show _ = some (.int .i64 d.id) from rfl)
  have x1 := (hX.cell 1).trans (show _ = some (.int .i64 d.day) from rfl)
  have x2 := (hX.cell 2).trans (show _ = some (.int .i64 d.need) from rfl)
  have x3 := (hX.cell 3).trans (show _ = some (.slice Y d.yes.length yc) from rfl)
  have x4 := (hX.cell 4).trans (show _ = some (.slice N d.no.length nc) from rfl)
  have x5 := (hX.cell 5).trans (show _ = some (.bool d.done) from rfl)
  replace hZ := hZ.below hq3 hZ.lt
  have z0 := (hZ.cell 0).trans (show _ = some (.int .i64 0) from rfl)
  have z1 := (hZ.cell 1).trans (show _ = some (.int .i64 0) from rfl)
  have z2 := (hZ.cell 2).trans (show _ = some (.int .i64 0) from rfl)
  have z3 := (hZ.cell 3).trans (show _ = some (.slice none 0 0) from rfl)
  have z4 := (hZ.cell 4).trans (show _ = some (.slice none 0 0) from rfl)
  have z5 := (hZ.cell 5).trans (show _ = some (.bool false) from rfl)
  clear hM hO7 hO9 hz7 hz9 hW hG hg
  generalize σ 7 = p7 at *
  generalize σ 9 = p9 at *
  generalize (σ 11).2 = g at *
  obtain ⟨A7, c7⟩ := p7
  obtain ⟨A9, c9⟩ := p9
  have hOY := hO7'; have hON := hO9'
  have nehOY := hne7; have nehON := hne9
  have g0 := (hGG.cell 0).trans (show _ = some (.int .i64 0) from rfl)
  have g1 := (hGG.cell 1).trans (show _ = some (.int .i64 0) from rfl)
  have g2 := (hGG.cell 2).trans (show _ = some (.int .i64 0) from rfl)
  have g3 := (hGG.cell 3).trans (show _ = some (.slice none 0 0) from rfl)
  have g4 := (hGG.cell 4).trans (show _ = some (.slice none 0 0) from rfl)
  have g5 := (hGG.cell 5).trans (show _ = some (.bool false) from rfl)
  refine wpMix_cons fun K2 hK2 => ?_
  change wpQuiet _ _ _ _ ([]) _
  refine wpQuiet_nil ?_
  change wpList _ _ _ (_ :: []) _ _
  have fhGG0 := hGG.frozen 0
  have fhGG1 := hGG.frozen 1
  have fhGG2 := hGG.frozen 2
  have fhGG3 := hGG.frozen 3
  have fhGG4 := hGG.frozen 4
  have fhGG5 := hGG.frozen 5
  have yhX := hX.lt
  have yhZ := hZ.lt
  have yhGG := hGG.lt
  go_wp2
  clear fhGG0 fhGG1 fhGG2 fhGG3 fhGG4 fhGG5
  have hG0 : w.heap.size ≤ g := by have := HB.size; omega
  have hGX : w.heap.size ≠ g := by omega
  clear x0 x1 x2 x3 x4 x5 z0 z1 z2 z3 z4 z5 g0 g1 g2 g3 g4 g5
  replace HB : Below w.heap.size w (World.setCell (World.setCell (World.setCell (World.setCell (World.setCell (World.setCell W ⟨g, 0, none⟩ (.int .i64 d.id)) ⟨g, 1, none⟩ (.int .i64 d.day)) ⟨g, 2, none⟩ (.int .i64 d.need)) ⟨g, 3, none⟩ (.slice A7 es.length c7)) ⟨g, 4, none⟩ (.slice A9 fs.length c9)) ⟨g, 5, none⟩ (.bool true)) := ((((((HB.setCell (by show w.heap.size ≤ g; omega) (.int .i64 d.id) (p := ⟨g, 0, none⟩)).setCell (by show w.heap.size ≤ g; omega) (.int .i64 d.day) (p := ⟨g, 1, none⟩)).setCell (by show w.heap.size ≤ g; omega) (.int .i64 d.need) (p := ⟨g, 2, none⟩)).setCell (by show w.heap.size ≤ g; omega) (.slice A7 es.length c7) (p := ⟨g, 3, none⟩)).setCell (by show w.heap.size ≤ g; omega) (.slice A9 fs.length c9) (p := ⟨g, 4, none⟩)).setCell (by show w.heap.size ≤ g; omega) (.bool true) (p := ⟨g, 5, none⟩))
  replace hX := ((((((hX.far' (p := ⟨g, 0, none⟩) (by show _ ≠ g; omega) (.int .i64 d.id)).far' (p := ⟨g, 1, none⟩) (by show _ ≠ g; omega) (.int .i64 d.day)).far' (p := ⟨g, 2, none⟩) (by show _ ≠ g; omega) (.int .i64 d.need)).far' (p := ⟨g, 3, none⟩) (by show _ ≠ g; omega) (.slice A7 es.length c7)).far' (p := ⟨g, 4, none⟩) (by show _ ≠ g; omega) (.slice A9 fs.length c9)).far' (p := ⟨g, 5, none⟩) (by show _ ≠ g; omega) (.bool true))
  replace hZ := ((((((hZ.far' (p := ⟨g, 0, none⟩) (by show _ ≠ g; omega) (.int .i64 d.id)).far' (p := ⟨g, 1, none⟩) (by show _ ≠ g; omega) (.int .i64 d.day)).far' (p := ⟨g, 2, none⟩) (by show _ ≠ g; omega) (.int .i64 d.need)).far' (p := ⟨g, 3, none⟩) (by show _ ≠ g; omega) (.slice A7 es.length c7)).far' (p := ⟨g, 4, none⟩) (by show _ ≠ g; omega) (.slice A9 fs.length c9)).far' (p := ⟨g, 5, none⟩) (by show _ ≠ g; omega) (.bool true))
  replace hGG : Blk (World.setCell (World.setCell (World.setCell (World.setCell (World.setCell (World.setCell W ⟨g, 0, none⟩ (.int .i64 d.id)) ⟨g, 1, none⟩ (.int .i64 d.day)) ⟨g, 2, none⟩ (.int .i64 d.need)) ⟨g, 3, none⟩ (.slice A7 es.length c7)) ⟨g, 4, none⟩ (.slice A9 fs.length c9)) ⟨g, 5, none⟩ (.bool true)) (g) 28 #[.int .i64 d.id, .int .i64 d.day, .int .i64 d.need, .slice A7 es.length c7, .slice A9 fs.length c9, .bool true] := ((((((hGG.set_ 0 (.int .i64 d.id)).set_ 1 (.int .i64 d.day)).set_ 2 (.int .i64 d.need)).set_ 3 (.slice A7 es.length c7)).set_ 4 (.slice A9 fs.length c9)).set_ 5 (.bool true))
  replace hOY := hOY.kept (grown_set (j := 5) (grown_set (j := 4) (grown_set (j := 3) (grown_set (j := 2) (grown_set (j := 1) (grown_set (j := 0) (grown_refl W (some (g))) (.int .i64 d.id)) (.int .i64 d.day)) (.int .i64 d.need)) (.slice A7 es.length c7)) (.slice A9 fs.length c9)) (.bool true)) (fun k hk e => by have h1 := (hOY.lt k hk); have h2 : k = g := (Option.some.inj e); first | omega | exact absurd h2 (nehOY k hk))
  replace hON := hON.kept (grown_set (j := 5) (grown_set (j := 4) (grown_set (j := 3) (grown_set (j := 2) (grown_set (j := 1) (grown_set (j := 0) (grown_refl W (some (g))) (.int .i64 d.id)) (.int .i64 d.day)) (.int .i64 d.need)) (.slice A7 es.length c7)) (.slice A9 fs.length c9)) (.bool true)) (fun k hk e => by have h1 := (hON.lt k hk); have h2 : k = g := (Option.some.inj e); first | omega | exact absurd h2 (nehON k hk))
  generalize World.setCell (World.setCell (World.setCell (World.setCell (World.setCell (World.setCell W ⟨g, 0, none⟩ (.int .i64 d.id)) ⟨g, 1, none⟩ (.int .i64 d.day)) ⟨g, 2, none⟩ (.int .i64 d.need)) ⟨g, 3, none⟩ (.slice A7 es.length c7)) ⟨g, 4, none⟩ (.slice A9 fs.length c9)) ⟨g, 5, none⟩ (.bool true) = W3 at *
  have x0 := (hX.cell 0).trans (show _ = some (.int .i64 d.id) from rfl)
  have x1 := (hX.cell 1).trans (show _ = some (.int .i64 d.day) from rfl)
  have x2 := (hX.cell 2).trans (show _ = some (.int .i64 d.need) from rfl)
  have x3 := (hX.cell 3).trans (show _ = some (.slice Y d.yes.length yc) from rfl)
  have x4 := (hX.cell 4).trans (show _ = some (.slice N d.no.length nc) from rfl)
  have x5 := (hX.cell 5).trans (show _ = some (.bool d.done) from rfl)
  have z0 := (hZ.cell 0).trans (show _ = some (.int .i64 0) from rfl)
  have z1 := (hZ.cell 1).trans (show _ = some (.int .i64 0) from rfl)
  have z2 := (hZ.cell 2).trans (show _ = some (.int .i64 0) from rfl)
  have z3 := (hZ.cell 3).trans (show _ = some (.slice none 0 0) from rfl)
  have z4 := (hZ.cell 4).trans (show _ = some (.slice none 0 0) from rfl)
  have z5 := (hZ.cell 5).trans (show _ = some (.bool false) from rfl)
  have g0 := (hGG.cell 0).trans (show _ = some (.int .i64 d.id) from rfl)
  have g1 := (hGG.cell 1).trans (show _ = some (.int .i64 d.day) from rfl)
  have g2 := (hGG.cell 2).trans (show _ = some (.int .i64 d.need) from rfl)
  have g3 := (hGG.cell 3).trans (show _ = some (.slice A7 es.length c7) from rfl)
  have g4 := (hGG.cell 4).trans (show _ = some (.slice A9 fs.length c9) from rfl)
  have g5 := (hGG.cell 5).trans (show _ = some (.bool true) from rfl)
  refine Nrm_intro (((HCC2.out _).2 ⟨HB, hX⟩)) (hK2 _ _ ?_)
  refine wpMix_last ?_
  change wpQuiet _ _ _ _ ([]) _
  refine wpQuiet_nil ?_
  clear yhX yhZ yhGG
  cases hd : decB d
  · have HD := Lib.hid hd; clear hd
    go_wp2_with fail
    refine (isValidDecided_is d Y N yc nc hy hn _ HD.out _ (hRy1.below HB) (hRn1.below HB)).mono ?_
    rintro e w4 ⟨rfl, hb4⟩
    have hq4 : Below W3.heap.size W3 w4 := bth (by repeat (first | exact Below.refl _ _ | refine Below.alloc ?_ (by first | exact Nat.le_refl _ | (simp <;> omega)) _ | refine Below.setCell ?_ (by first | exact Nat.le_refl _ | (simp <;> omega)) _)) hb4
    replace HB := bth HB hq4
    replace hOY := hOY.later hq4
    replace hON := hON.later hq4
    replace hX := hX.below hq4 hX.lt
    replace x0 := (hX.cell 0).trans (show _ = some (.int .i64 d.id) from rfl)
    replace x1 := (hX.cell 1).trans (show _ = some (.int .i64 d.day) from rfl)
    replace x2 := (hX.cell 2).trans (show _ = some (.int .i64 d.need) from rfl)
    replace x3 := (hX.cell 3).trans (show _ = some (.slice Y d.yes.length yc) from rfl)
    replace x4 := (hX.cell 4).trans (show _ = some (.slice N d.no.length nc) from rfl)
    replace x5 := (hX.cell 5).trans (show _ = some (.bool d.done) from rfl)
    replace hZ := hZ.below hq4 hZ.lt
    replace z0 := (hZ.cell 0).trans (show _ = some (.int .i64 0) from rfl)
    replace z1 := (hZ.cell 1).trans (show _ = some (.int .i64 0) from rfl)
    replace z2 := (hZ.cell 2).trans (show _ = some (.int .i64 0) from rfl)
    replace z3 := (hZ.cell 3).trans (show _ = some (.slice none 0 0) from rfl)
    replace z4 := (hZ.cell 4).trans (show _ = some (.slice none 0 0) from rfl)
    replace z5 := (hZ.cell 5).trans (show _ = some (.bool false) from rfl)
    replace hGG := hGG.below hq4 hGG.lt
    replace g0 := (hGG.cell 0).trans (show _ = some (.int .i64 d.id) from rfl)
    replace g1 := (hGG.cell 1).trans (show _ = some (.int .i64 d.day) from rfl)
    replace g2 := (hGG.cell 2).trans (show _ = some (.int .i64 d.need) from rfl)
    replace g3 := (hGG.cell 3).trans (show _ = some (.slice A7 es.length c7) from rfl)
    replace g4 := (hGG.cell 4).trans (show _ = some (.slice A9 fs.length c9) from rfl)
    replace g5 := (hGG.cell 5).trans (show _ = some (.bool true) from rfl)
    have h1 : reOk d es fs = false := by simp [reOk, HD.out]
    have h2 := HNO.out _ h1 rfl
    have H1 := Lib.hid h1; have H2 := Lib.hid h2; clear h1 h2
    have yhZ0 := hZ.frozen 0
    have yhZ1 := hZ.frozen 1
    have yhZ2 := hZ.frozen 2
    have yhZ3 := hZ.frozen 3
    have yhZ4 := hZ.frozen 4
    have yhZ5 := hZ.frozen 5
    have hF := ((((((hZ.set_ 0 (.int .i64 0)).set_ 1 (.int .i64 0)).set_ 2 (.int .i64 0)).set_ 3 (.slice none 0 0)).set_ 4 (.slice none 0 0)).set_ 5 (.bool false))
    have r0 := (hF.cell 0).trans (show _ = some (.int .i64 0) from rfl)
    have r1 := (hF.cell 1).trans (show _ = some (.int .i64 0) from rfl)
    have r2 := (hF.cell 2).trans (show _ = some (.int .i64 0) from rfl)
    have r3 := (hF.cell 3).trans (show _ = some (.slice none 0 0) from rfl)
    have r4 := (hF.cell 4).trans (show _ = some (.slice none 0 0) from rfl)
    have r5 := (hF.cell 5).trans (show _ = some (.bool false) from rfl)
    have hEW := ((((((HB.setCell (by show w.heap.size ≤ w.heap.size + 1; omega) (.int .i64 0) (p := ⟨w.heap.size + 1, 0, none⟩)).setCell (by show w.heap.size ≤ w.heap.size + 1; omega) (.int .i64 0) (p := ⟨w.heap.size + 1, 1, none⟩)).setCell (by show w.heap.size ≤ w.heap.size + 1; omega) (.int .i64 0) (p := ⟨w.heap.size + 1, 2, none⟩)).setCell (by show w.heap.size ≤ w.heap.size + 1; omega) (.slice none 0 0) (p := ⟨w.heap.size + 1, 3, none⟩)).setCell (by show w.heap.size ≤ w.heap.size + 1; omega) (.slice none 0 0) (p := ⟨w.heap.size + 1, 4, none⟩)).setCell (by show w.heap.size ≤ w.heap.size + 1; omega) (.bool false) (p := ⟨w.heap.size + 1, 5, none⟩))
    have yhX := hX.lt
    have yhZ := hZ.lt
    have yhGG := hGG.lt
    go_wp2
    refine bodyPost_ret (v := .tuple #[.agg #[.int .i64 0, .int .i64 0, .int .i64 0, .slice none 0 0, .slice none 0 0, .bool false], .bool false]) (by simp [results, Try.results18, go_sem, r0, r1, r2, r3, r4, r5]) rfl ?_
    rw [H1.out, H2.out]
    exact ⟨none, 0, none, 0, rfl, OwnV.nil, OwnV.nil, apart2 (fun k h => by cases h), hEW⟩
  rcases Bool.eq_false_or_eq_true d.done with hdn | hdn
  · have HD := Lib.hid hd; have HDN := Lib.hid hdn; clear hd hdn
    go_wp2_with fail
    refine (isValidDecided_is d Y N yc nc hy hn _ HD.out _ (hRy1.below HB) (hRn1.below HB)).mono ?_
    rintro e w4 ⟨rfl, hb4⟩
    have hq4 : Below W3.heap.size W3 w4 := bth (by repeat (first | exact Below.refl _ _ | refine Below.alloc ?_ (by first | exact Nat.le_refl _ | (simp <;> omega)) _ | refine Below.setCell ?_ (by first | exact Nat.le_refl _ | (simp <;> omega)) _)) hb4
    replace HB := bth HB hq4
    replace hOY := hOY.later hq4
    replace hON := hON.later hq4
    replace hX := hX.below hq4 hX.lt
    replace x0 := (hX.cell 0).trans (show _ = some (.int .i64 d.id) from rfl)
    replace x1 := (hX.cell 1).trans (show _ = some (.int .i64 d.day) from rfl)
    replace x2 := (hX.cell 2).trans (show _ = some (.int .i64 d.need) from rfl)
    replace x3 := (hX.cell 3).trans (show _ = some (.slice Y d.yes.length yc) from rfl)
    replace x4 := (hX.cell 4).trans (show _ = some (.slice N d.no.length nc) from rfl)
    replace x5 := (hX.cell 5).trans (show _ = some (.bool d.done) from rfl)
    replace hZ := hZ.below hq4 hZ.lt
    replace z0 := (hZ.cell 0).trans (show _ = some (.int .i64 0) from rfl)
    replace z1 := (hZ.cell 1).trans (show _ = some (.int .i64 0) from rfl)
    replace z2 := (hZ.cell 2).trans (show _ = some (.int .i64 0) from rfl)
    replace z3 := (hZ.cell 3).trans (show _ = some (.slice none 0 0) from rfl)
    replace z4 := (hZ.cell 4).trans (show _ = some (.slice none 0 0) from rfl)
    replace z5 := (hZ.cell 5).trans (show _ = some (.bool false) from rfl)
    replace hGG := hGG.below hq4 hGG.lt
    replace g0 := (hGG.cell 0).trans (show _ = some (.int .i64 d.id) from rfl)
    replace g1 := (hGG.cell 1).trans (show _ = some (.int .i64 d.day) from rfl)
    replace g2 := (hGG.cell 2).trans (show _ = some (.int .i64 d.need) from rfl)
    replace g3 := (hGG.cell 3).trans (show _ = some (.slice A7 es.length c7) from rfl)
    replace g4 := (hGG.cell 4).trans (show _ = some (.slice A9 fs.length c9) from rfl)
    replace g5 := (hGG.cell 5).trans (show _ = some (.bool true) from rfl)
    have h1 : reOk d es fs = false := by simp [reOk, HDN.out]
    have h2 := HNO.out _ h1 rfl
    have H1 := Lib.hid h1; have H2 := Lib.hid h2; clear h1 h2
    have hdn := HDN.out
    have yhZ0 := hZ.frozen 0
    have yhZ1 := hZ.frozen 1
    have yhZ2 := hZ.frozen 2
    have yhZ3 := hZ.frozen 3
    have yhZ4 := hZ.frozen 4
    have yhZ5 := hZ.frozen 5
    have hF := ((((((hZ.set_ 0 (.int .i64 0)).set_ 1 (.int .i64 0)).set_ 2 (.int .i64 0)).set_ 3 (.slice none 0 0)).set_ 4 (.slice none 0 0)).set_ 5 (.bool false))
    have r0 := (hF.cell 0).trans (show _ = some (.int .i64 0) from rfl)
    have r1 := (hF.cell 1).trans (show _ = some (.int .i64 0) from rfl)
    have r2 := (hF.cell 2).trans (show _ = some (.int .i64 0) from rfl)
    have r3 := (hF.cell 3).trans (show _ = some (.slice none 0 0) from rfl)
    have r4 := (hF.cell 4).trans (show _ = some (.slice none 0 0) from rfl)
    have r5 := (hF.cell 5).trans (show _ = some (.bool false) from rfl)
    have hEW := ((((((HB.setCell (by show w.heap.size ≤ w.heap.size + 1; omega) (.int .i64 0) (p := ⟨w.heap.size + 1, 0, none⟩)).setCell (by show w.heap.size ≤ w.heap.size + 1; omega) (.int .i64 0) (p := ⟨w.heap.size + 1, 1, none⟩)).setCell (by show w.heap.size ≤ w.heap.size + 1; omega) (.int .i64 0) (p := ⟨w.heap.size + 1, 2, none⟩)).setCell (by show w.heap.size ≤ w.heap.size + 1; omega) (.slice none 0 0) (p := ⟨w.heap.size + 1, 3, none⟩)).setCell (by show w.heap.size ≤ w.heap.size + 1; omega) (.slice none 0 0) (p := ⟨w.heap.size + 1, 4, none⟩)).setCell (by show w.heap.size ≤ w.heap.size + 1; omega) (.bool false) (p := ⟨w.heap.size + 1, 5, none⟩))
    have yhX := hX.lt
    have yhZ := hZ.lt
    have yhGG := hGG.lt
    go_wp2
    refine bodyPost_ret (v := .tuple #[.agg #[.int .i64 0, .int .i64 0, .int .i64 0, .slice none 0 0, .slice none 0 0, .bool false], .bool false]) (by simp [results, Try.results18, go_sem, r0, r1, r2, r3, r4, r5]) rfl ?_
    rw [H1.out, H2.out]
    exact ⟨none, 0, none, 0, rfl, OwnV.nil, OwnV.nil, apart2 (fun k h => by cases h), hEW⟩
  cases hs : sidesB es fs
  · have hv := (HSD.out hd).trans hs
    have HD := Lib.hid hd; have HDN := Lib.hid hdn; have HS := Lib.hid hs; have HV := Lib.hid hv; clear hd hdn hs hv
    go_wp2_with fail
    refine (isValidDecided_is d Y N yc nc hy hn _ HD.out _ (hRy1.below HB) (hRn1.below HB)).mono ?_
    rintro e w4 ⟨rfl, hb4⟩
    have hq4 : Below W3.heap.size W3 w4 := bth (by repeat (first | exact Below.refl _ _ | refine Below.alloc ?_ (by first | exact Nat.le_refl _ | (simp <;> omega)) _ | refine Below.setCell ?_ (by first | exact Nat.le_refl _ | (simp <;> omega)) _)) hb4
    replace HB := bth HB hq4
    replace hOY := hOY.later hq4
    replace hON := hON.later hq4
    replace hX := hX.below hq4 hX.lt
    replace x0 := (hX.cell 0).trans (show _ = some (.int .i64 d.id) from rfl)
    replace x1 := (hX.cell 1).trans (show _ = some (.int .i64 d.day) from rfl)
    replace x2 := (hX.cell 2).trans (show _ = some (.int .i64 d.need) from rfl)
    replace x3 := (hX.cell 3).trans (show _ = some (.slice Y d.yes.length yc) from rfl)
    replace x4 := (hX.cell 4).trans (show _ = some (.slice N d.no.length nc) from rfl)
    replace x5 := (hX.cell 5).trans (show _ = some (.bool d.done) from rfl)
    replace hZ := hZ.below hq4 hZ.lt
    replace z0 := (hZ.cell 0).trans (show _ = some (.int .i64 0) from rfl)
    replace z1 := (hZ.cell 1).trans (show _ = some (.int .i64 0) from rfl)
    replace z2 := (hZ.cell 2).trans (show _ = some (.int .i64 0) from rfl)
    replace z3 := (hZ.cell 3).trans (show _ = some (.slice none 0 0) from rfl)
    replace z4 := (hZ.cell 4).trans (show _ = some (.slice none 0 0) from rfl)
    replace z5 := (hZ.cell 5).trans (show _ = some (.bool false) from rfl)
    replace hGG := hGG.below hq4 hGG.lt
    replace g0 := (hGG.cell 0).trans (show _ = some (.int .i64 d.id) from rfl)
    replace g1 := (hGG.cell 1).trans (show _ = some (.int .i64 d.day) from rfl)
    replace g2 := (hGG.cell 2).trans (show _ = some (.int .i64 d.need) from rfl)
    replace g3 := (hGG.cell 3).trans (show _ = some (.slice A7 es.length c7) from rfl)
    replace g4 := (hGG.cell 4).trans (show _ = some (.slice A9 fs.length c9) from rfl)
    replace g5 := (hGG.cell 5).trans (show _ = some (.bool true) from rfl)
    have hdn := HDN.out
    go_wp2_with fail
    refine (isValidDecided_is ⟨d.id, d.day, d.need, es, fs, true⟩ A7 A9 c7 c9 he hf _ HV.out _ hOY.rds hON.rds).mono ?_
    rintro e w5 ⟨rfl, hb5⟩
    have hq5 : Below w4.heap.size w4 w5 := bth (by repeat (first | exact Below.refl _ _ | refine Below.alloc ?_ (by first | exact Nat.le_refl _ | (simp <;> omega)) _ | refine Below.setCell ?_ (by first | exact Nat.le_refl _ | (simp <;> omega)) _)) hb5
    replace HB := bth HB hq5
    replace hOY := hOY.later hq5
    replace hON := hON.later hq5
    replace hX := hX.below hq5 hX.lt
    replace x0 := (hX.cell 0).trans (show _ = some (.int .i64 d.id) from rfl)
    replace x1 := (hX.cell 1).trans (show _ = some (.int .i64 d.day) from rfl)
    replace x2 := (hX.cell 2).trans (show _ = some (.int .i64 d.need) from rfl)
    replace x3 := (hX.cell 3).trans (show _ = some (.slice Y d.yes.length yc) from rfl)
    replace x4 := (hX.cell 4).trans (show _ = some (.slice N d.no.length nc) from rfl)
    replace x5 := (hX.cell 5).trans (show _ = some (.bool d.done) from rfl)
    replace hZ := hZ.below hq5 hZ.lt
    replace z0 := (hZ.cell 0).trans (show _ = some (.int .i64 0) from rfl)
    replace z1 := (hZ.cell 1).trans (show _ = some (.int .i64 0) from rfl)
    replace z2 := (hZ.cell 2).trans (show _ = some (.int .i64 0) from rfl)
    replace z3 := (hZ.cell 3).trans (show _ = some (.slice none 0 0) from rfl)
    replace z4 := (hZ.cell 4).trans (show _ = some (.slice none 0 0) from rfl)
    replace z5 := (hZ.cell 5).trans (show _ = some (.bool false) from rfl)
    replace hGG := hGG.below hq5 hGG.lt
    replace g0 := (hGG.cell 0).trans (show _ = some (.int .i64 d.id) from rfl)
    replace g1 := (hGG.cell 1).trans (show _ = some (.int .i64 d.day) from rfl)
    replace g2 := (hGG.cell 2).trans (show _ = some (.int .i64 d.need) from rfl)
    replace g3 := (hGG.cell 3).trans (show _ = some (.slice A7 es.length c7) from rfl)
    replace g4 := (hGG.cell 4).trans (show _ = some (.slice A9 fs.length c9) from rfl)
    replace g5 := (hGG.cell 5).trans (show _ = some (.bool true) from rfl)
    have h1 : reOk d es fs = false := by simp [reOk, HS.out]
    have h2 := HNO.out _ h1 rfl
    have H1 := Lib.hid h1; have H2 := Lib.hid h2; clear h1 h2
    have yhZ0 := hZ.frozen 0
    have yhZ1 := hZ.frozen 1
    have yhZ2 := hZ.frozen 2
    have yhZ3 := hZ.frozen 3
    have yhZ4 := hZ.frozen 4
    have yhZ5 := hZ.frozen 5
    have hF := ((((((hZ.set_ 0 (.int .i64 0)).set_ 1 (.int .i64 0)).set_ 2 (.int .i64 0)).set_ 3 (.slice none 0 0)).set_ 4 (.slice none 0 0)).set_ 5 (.bool false))
    have r0 := (hF.cell 0).trans (show _ = some (.int .i64 0) from rfl)
    have r1 := (hF.cell 1).trans (show _ = some (.int .i64 0) from rfl)
    have r2 := (hF.cell 2).trans (show _ = some (.int .i64 0) from rfl)
    have r3 := (hF.cell 3).trans (show _ = some (.slice none 0 0) from rfl)
    have r4 := (hF.cell 4).trans (show _ = some (.slice none 0 0) from rfl)
    have r5 := (hF.cell 5).trans (show _ = some (.bool false) from rfl)
    have hEW := ((((((HB.setCell (by show w.heap.size ≤ w.heap.size + 1; omega) (.int .i64 0) (p := ⟨w.heap.size + 1, 0, none⟩)).setCell (by show w.heap.size ≤ w.heap.size + 1; omega) (.int .i64 0) (p := ⟨w.heap.size + 1, 1, none⟩)).setCell (by show w.heap.size ≤ w.heap.size + 1; omega) (.int .i64 0) (p := ⟨w.heap.size + 1, 2, none⟩)).setCell (by show w.heap.size ≤ w.heap.size + 1; omega) (.slice none 0 0) (p := ⟨w.heap.size + 1, 3, none⟩)).setCell (by show w.heap.size ≤ w.heap.size + 1; omega) (.slice none 0 0) (p := ⟨w.heap.size + 1, 4, none⟩)).setCell (by show w.heap.size ≤ w.heap.size + 1; omega) (.bool false) (p := ⟨w.heap.size + 1, 5, none⟩))
    have yhX := hX.lt
    have yhZ := hZ.lt
    have yhGG := hGG.lt
    go_wp2
    refine bodyPost_ret (v := .tuple #[.agg #[.int .i64 0, .int .i64 0, .int .i64 0, .slice none 0 0, .slice none 0 0, .bool false], .bool false]) (by simp [results, Try.results18, go_sem, r0, r1, r2, r3, r4, r5]) rfl ?_
    rw [H1.out, H2.out]
    exact ⟨none, 0, none, 0, rfl, OwnV.nil, OwnV.nil, apart2 (fun k h => by cases h), hEW⟩
  · have hv := (HSD.out hd).trans hs
    have h1 : reOk d es fs = true := by simp [reOk, hs, hd, hdn]
    have h2 : reD d es fs = ⟨d.id, d.day, d.need, es, fs, true⟩ := by rw [reD, h1]; rfl
    have HD := Lib.hid hd; have HDN := Lib.hid hdn; have HV := Lib.hid hv; have H1 := Lib.hid h1; have H2 := Lib.hid h2; clear hd hdn hs hv h1 h2
    go_wp2_with fail
    refine (isValidDecided_is d Y N yc nc hy hn _ HD.out _ (hRy1.below HB) (hRn1.below HB)).mono ?_
    rintro e w4 ⟨rfl, hb4⟩
    have hq4 : Below W3.heap.size W3 w4 := bth (by repeat (first | exact Below.refl _ _ | refine Below.alloc ?_ (by first | exact Nat.le_refl _ | (simp <;> omega)) _ | refine Below.setCell ?_ (by first | exact Nat.le_refl _ | (simp <;> omega)) _)) hb4
    replace HB := bth HB hq4
    replace hOY := hOY.later hq4
    replace hON := hON.later hq4
    replace hX := hX.below hq4 hX.lt
    replace x0 := (hX.cell 0).trans (show _ = some (.int .i64 d.id) from rfl)
    replace x1 := (hX.cell 1).trans (show _ = some (.int .i64 d.day) from rfl)
    replace x2 := (hX.cell 2).trans (show _ = some (.int .i64 d.need) from rfl)
    replace x3 := (hX.cell 3).trans (show _ = some (.slice Y d.yes.length yc) from rfl)
    replace x4 := (hX.cell 4).trans (show _ = some (.slice N d.no.length nc) from rfl)
    replace x5 := (hX.cell 5).trans (show _ = some (.bool d.done) from rfl)
    replace hZ := hZ.below hq4 hZ.lt
    replace z0 := (hZ.cell 0).trans (show _ = some (.int .i64 0) from rfl)
    replace z1 := (hZ.cell 1).trans (show _ = some (.int .i64 0) from rfl)
    replace z2 := (hZ.cell 2).trans (show _ = some (.int .i64 0) from rfl)
    replace z3 := (hZ.cell 3).trans (show _ = some (.slice none 0 0) from rfl)
    replace z4 := (hZ.cell 4).trans (show _ = some (.slice none 0 0) from rfl)
    replace z5 := (hZ.cell 5).trans (show _ = some (.bool false) from rfl)
    replace hGG := hGG.below hq4 hGG.lt
    replace g0 := (hGG.cell 0).trans (show _ = some (.int .i64 d.id) from rfl)
    replace g1 := (hGG.cell 1).trans (show _ = some (.int .i64 d.day) from rfl)
    replace g2 := (hGG.cell 2).trans (show _ = some (.int .i64 d.need) from rfl)
    replace g3 := (hGG.cell 3).trans (show _ = some (.slice A7 es.length c7) from rfl)
    replace g4 := (hGG.cell 4).trans (show _ = some (.slice A9 fs.length c9) from rfl)
    replace g5 := (hGG.cell 5).trans (show _ = some (.bool true) from rfl)
    have hdn := HDN.out
    go_wp2_with fail
    refine (isValidDecided_is ⟨d.id, d.day, d.need, es, fs, true⟩ A7 A9 c7 c9 he hf _ HV.out _ hOY.rds hON.rds).mono ?_
    rintro e w5 ⟨rfl, hb5⟩
    have hq5 : Below w4.heap.size w4 w5 := bth (by repeat (first | exact Below.refl _ _ | refine Below.alloc ?_ (by first | exact Nat.le_refl _ | (simp <;> omega)) _ | refine Below.setCell ?_ (by first | exact Nat.le_refl _ | (simp <;> omega)) _)) hb5
    replace HB := bth HB hq5
    replace hOY := hOY.later hq5
    replace hON := hON.later hq5
    replace hX := hX.below hq5 hX.lt
    replace x0 := (hX.cell 0).trans (show _ = some (.int .i64 d.id) from rfl)
    replace x1 := (hX.cell 1).trans (show _ = some (.int .i64 d.day) from rfl)
    replace x2 := (hX.cell 2).trans (show _ = some (.int .i64 d.need) from rfl)
    replace x3 := (hX.cell 3).trans (show _ = some (.slice Y d.yes.length yc) from rfl)
    replace x4 := (hX.cell 4).trans (show _ = some (.slice N d.no.length nc) from rfl)
    replace x5 := (hX.cell 5).trans (show _ = some (.bool d.done) from rfl)
    replace hZ := hZ.below hq5 hZ.lt
    replace z0 := (hZ.cell 0).trans (show _ = some (.int .i64 0) from rfl)
    replace z1 := (hZ.cell 1).trans (show _ = some (.int .i64 0) from rfl)
    replace z2 := (hZ.cell 2).trans (show _ = some (.int .i64 0) from rfl)
    replace z3 := (hZ.cell 3).trans (show _ = some (.slice none 0 0) from rfl)
    replace z4 := (hZ.cell 4).trans (show _ = some (.slice none 0 0) from rfl)
    replace z5 := (hZ.cell 5).trans (show _ = some (.bool false) from rfl)
    replace hGG := hGG.below hq5 hGG.lt
    replace g0 := (hGG.cell 0).trans (show _ = some (.int .i64 d.id) from rfl)
    replace g1 := (hGG.cell 1).trans (show _ = some (.int .i64 d.day) from rfl)
    replace g2 := (hGG.cell 2).trans (show _ = some (.int .i64 d.need) from rfl)
    replace g3 := (hGG.cell 3).trans (show _ = some (.slice A7 es.length c7) from rfl)
    replace g4 := (hGG.cell 4).trans (show _ = some (.slice A9 fs.length c9) from rfl)
    replace g5 := (hGG.cell 5).trans (show _ = some (.bool true) from rfl)
    clear hdn
    have fhZ0 := hZ.frozen 0
    have fhZ1 := hZ.frozen 1
    have fhZ2 := hZ.frozen 2
    have fhZ3 := hZ.frozen 3
    have fhZ4 := hZ.frozen 4
    have fhZ5 := hZ.frozen 5
    have yhX := hX.lt
    have yhZ := hZ.lt
    have yhGG := hGG.lt
    go_wp2
    clear x0 x1 x2 x3 x4 x5 z0 z1 z2 z3 z4 z5 g0 g1 g2 g3 g4 g5
    replace HB : Below w.heap.size w (World.setCell (World.setCell (World.setCell (World.setCell (World.setCell (World.setCell w5 ⟨w.heap.size + 1, 0, none⟩ (.int .i64 d.id)) ⟨w.heap.size + 1, 1, none⟩ (.int .i64 d.day)) ⟨w.heap.size + 1, 2, none⟩ (.int .i64 d.need)) ⟨w.heap.size + 1, 3, none⟩ (.slice A7 es.length c7)) ⟨w.heap.size + 1, 4, none⟩ (.slice A9 fs.length c9)) ⟨w.heap.size + 1, 5, none⟩ (.bool true)) := ((((((HB.setCell (by show w.heap.size ≤ w.heap.size + 1; omega) (.int .i64 d.id) (p := ⟨w.heap.size + 1, 0, none⟩)).setCell (by show w.heap.size ≤ w.heap.size + 1; omega) (.int .i64 d.day) (p := ⟨w.heap.size + 1, 1, none⟩)).setCell (by show w.heap.size ≤ w.heap.size + 1; omega) (.int .i64 d.need) (p := ⟨w.heap.size + 1, 2, none⟩)).setCell (by show w.heap.size ≤ w.heap.size + 1; omega) (.slice A7 es.length c7) (p := ⟨w.heap.size + 1, 3, none⟩)).setCell (by show w.heap.size ≤ w.heap.size + 1; omega) (.slice A9 fs.length c9) (p := ⟨w.heap.size + 1, 4, none⟩)).setCell (by show w.heap.size ≤ w.heap.size + 1; omega) (.bool true) (p := ⟨w.heap.size + 1, 5, none⟩))
    replace hX := ((((((hX.far' (p := ⟨w.heap.size + 1, 0, none⟩) (by show _ ≠ w.heap.size + 1; omega) (.int .i64 d.id)).far' (p := ⟨w.heap.size + 1, 1, none⟩) (by show _ ≠ w.heap.size + 1; omega) (.int .i64 d.day)).far' (p := ⟨w.heap.size + 1, 2, none⟩) (by show _ ≠ w.heap.size + 1; omega) (.int .i64 d.need)).far' (p := ⟨w.heap.size + 1, 3, none⟩) (by show _ ≠ w.heap.size + 1; omega) (.slice A7 es.length c7)).far' (p := ⟨w.heap.size + 1, 4, none⟩) (by show _ ≠ w.heap.size + 1; omega) (.slice A9 fs.length c9)).far' (p := ⟨w.heap.size + 1, 5, none⟩) (by show _ ≠ w.heap.size + 1; omega) (.bool true))
    replace hZ : Blk (World.setCell (World.setCell (World.setCell (World.setCell (World.setCell (World.setCell w5 ⟨w.heap.size + 1, 0, none⟩ (.int .i64 d.id)) ⟨w.heap.size + 1, 1, none⟩ (.int .i64 d.day)) ⟨w.heap.size + 1, 2, none⟩ (.int .i64 d.need)) ⟨w.heap.size + 1, 3, none⟩ (.slice A7 es.length c7)) ⟨w.heap.size + 1, 4, none⟩ (.slice A9 fs.length c9)) ⟨w.heap.size + 1, 5, none⟩ (.bool true)) (w.heap.size + 1) 28 #[.int .i64 d.id, .int .i64 d.day, .int .i64 d.need, .slice A7 es.length c7, .slice A9 fs.length c9, .bool true] := ((((((hZ.set_ 0 (.int .i64 d.id)).set_ 1 (.int .i64 d.day)).set_ 2 (.int .i64 d.need)).set_ 3 (.slice A7 es.length c7)).set_ 4 (.slice A9 fs.length c9)).set_ 5 (.bool true))
    replace hGG := ((((((hGG.far' (p := ⟨w.heap.size + 1, 0, none⟩) (by show _ ≠ w.heap.size + 1; omega) (.int .i64 d.id)).far' (p := ⟨w.heap.size + 1, 1, none⟩) (by show _ ≠ w.heap.size + 1; omega) (.int .i64 d.day)).far' (p := ⟨w.heap.size + 1, 2, none⟩) (by show _ ≠ w.heap.size + 1; omega) (.int .i64 d.need)).far' (p := ⟨w.heap.size + 1, 3, none⟩) (by show _ ≠ w.heap.size + 1; omega) (.slice A7 es.length c7)).far' (p := ⟨w.heap.size + 1, 4, none⟩) (by show _ ≠ w.heap.size + 1; omega) (.slice A9 fs.length c9)).far' (p := ⟨w.heap.size + 1, 5, none⟩) (by show _ ≠ w.heap.size + 1; omega) (.bool true))
    replace hOY := hOY.kept (grown_set (j := 5) (grown_set (j := 4) (grown_set (j := 3) (grown_set (j := 2) (grown_set (j := 1) (grown_set (j := 0) (grown_refl w5 (some (w.heap.size + 1))) (.int .i64 d.id)) (.int .i64 d.day)) (.int .i64 d.need)) (.slice A7 es.length c7)) (.slice A9 fs.length c9)) (.bool true)) (fun k hk e => by have h1 := (hOY.lt k hk); have h2 : k = w.heap.size + 1 := (Option.some.inj e); first | omega | exact absurd h2 (nehOY k hk))
    replace hON := hON.kept (grown_set (j := 5) (grown_set (j := 4) (grown_set (j := 3) (grown_set (j := 2) (grown_set (j := 1) (grown_set (j := 0) (grown_refl w5 (some (w.heap.size + 1))) (.int .i64 d.id)) (.int .i64 d.day)) (.int .i64 d.need)) (.slice A7 es.length c7)) (.slice A9 fs.length c9)) (.bool true)) (fun k hk e => by have h1 := (hON.lt k hk); have h2 : k = w.heap.size + 1 := (Option.some.inj e); first | omega | exact absurd h2 (nehON k hk))
    generalize World.setCell (World.setCell (World.setCell (World.setCell (World.setCell (World.setCell w5 ⟨w.heap.size + 1, 0, none⟩ (.int .i64 d.id)) ⟨w.heap.size + 1, 1, none⟩ (.int .i64 d.day)) ⟨w.heap.size + 1, 2, none⟩ (.int .i64 d.need)) ⟨w.heap.size + 1, 3, none⟩ (.slice A7 es.length c7)) ⟨w.heap.size + 1, 4, none⟩ (.slice A9 fs.length c9)) ⟨w.heap.size + 1, 5, none⟩ (.bool true) = W9 at *
    have x0 := (hX.cell 0).trans (show _ = some (.int .i64 d.id) from rfl)
    have x1 := (hX.cell 1).trans (show _ = some (.int .i64 d.day) from rfl)
    have x2 := (hX.cell 2).trans (show _ = some (.int .i64 d.need) from rfl)
    have x3 := (hX.cell 3).trans (show _ = some (.slice Y d.yes.length yc) from rfl)
    have x4 := (hX.cell 4).trans (show _ = some (.slice N d.no.length nc) from rfl)
    have x5 := (hX.cell 5).trans (show _ = some (.bool d.done) from rfl)
    have z0 := (hZ.cell 0).trans (show _ = some (.int .i64 d.id) from rfl)
    have z1 := (hZ.cell 1).trans (show _ = some (.int .i64 d.day) from rfl)
    have z2 := (hZ.cell 2).trans (show _ = some (.int .i64 d.need) from rfl)
    have z3 := (hZ.cell 3).trans (show _ = some (.slice A7 es.length c7) from rfl)
    have z4 := (hZ.cell 4).trans (show _ = some (.slice A9 fs.length c9) from rfl)
    have z5 := (hZ.cell 5).trans (show _ = some (.bool true) from rfl)
    have g0 := (hGG.cell 0).trans (show _ = some (.int .i64 d.id) from rfl)
    have g1 := (hGG.cell 1).trans (show _ = some (.int .i64 d.day) from rfl)
    have g2 := (hGG.cell 2).trans (show _ = some (.int .i64 d.need) from rfl)
    have g3 := (hGG.cell 3).trans (show _ = some (.slice A7 es.length c7) from rfl)
    have g4 := (hGG.cell 4).trans (show _ = some (.slice A9 fs.length c9) from rfl)
    have g5 := (hGG.cell 5).trans (show _ = some (.bool true) from rfl)
    refine bodyPost_ret (v := .tuple #[.agg #[.int .i64 d.id, .int .i64 d.day, .int .i64 d.need, .slice A7 es.length c7, .slice A9 fs.length c9, .bool true], .bool true]) (by simp [results, Try.results18, go_sem, z0, z1, z2, z3, z4, z5]) rfl ?_
    rw [H1.out, H2.out]
    exact ⟨A7, c7, A9, c9, rfl, hOY.base (by omega), hON.base (by omega), apart2 hap, HB⟩
end Go.Proofs.Ythgaddnbgnennaa
