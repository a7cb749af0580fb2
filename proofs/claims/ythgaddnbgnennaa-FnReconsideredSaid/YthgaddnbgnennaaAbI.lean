/- Decided questions: who was absent, by the program; the law. -/
import Derived.Test.YthgaddnbgnennaaAb
import Derived.Test.YthgaddnbgnennaaDec2
import Derived.Test.YthgaddnbgnennaaDec4
import Derived.Test.YthgaddnbgnennaaCur
import Derived.Test.YthgaddnbgnennaaDel
import Derived.Deep.Cut
namespace Go.G9
open Go.RowKit Go.Sort Go.Proofs
theorem grown_put {T : Type} [Inhabited T] {enc : T → Value} {w : World} {g n : Nat} {d : Array T} {os : Array Obj} : w.grownBy (grow (putRow enc (Sort.ahead w n) g 0 d) os) (some g) := by
  refine ⟨rfl, rfl, rfl, by simp, fun k hk hne => ?_⟩
  rw [heap_grow_old _ _ (by simpa using hk)]
  have : g ≠ k := fun e => hne (by rw [e])
  simp [putRow, mapBlock, Sort.ahead, Array.getElem?_modify, this]
end Go.G9
namespace Go.Proofs.Ythgaddnbgnennaa
open Go.RowKit Go.G9 Go.Sort
theorem containsE_is (A : Option Addr) (c : Nat) (xs : List Int) (hn : xs.length ≤ 1048576) (x : Int) (w : World) (hR : Rds 1 intC w A xs) :
  Calls Try.prog 58 #[.slice A xs.length c, .int .i64 x] w fun e w' => e = .returned (.bool (hasB xs x)) ∧ w' = w := by
  rcases Nat.eq_zero_or_pos xs.length with h0 | h0
  · have hx : xs = [] := List.length_eq_zero_iff.1 h0
    subst hx
    exact Try.slices_Contains_int_empty A c x w
  · obtain ⟨b, off, rfl, h2, h3⟩ := hR h0
    have h := Try.slices_Contains_int b off xs.length c xs x w (Nat.le_refl _) (by omega) (fun j hj => by
      have h4 := h3 j xs[j] (List.getElem?_eq_getElem hj) 0 _ rfl
      rw [Nat.mul_one, Nat.add_zero] at h4
      rw [h4, List.getD_eq_getElem?_getD, List.getElem?_eq_getElem hj]
      rfl)
    rw [List.take_length] at h
    have e : xs.contains x = hasB xs x := by
      rw [Bool.eq_iff_iff, List.contains_iff_mem, hasB_mem]
    rwa [e] at h
set_option maxHeartbeats 1000000 in
theorem absF_is (bx : Nat) (d : Dec) (Y N : Option Addr) (yc nc : Nat) (hy : d.yes.length ≤ 1048576) (hn : d.no.length ≤ 1048576) (x : Int) (w : World) (hB : Blk w bx 28 #[.int .i64 d.id, .int .i64 d.day, .int .i64 d.need, .slice Y d.yes.length yc, .slice N d.no.length nc, .bool d.done]) (hRy : Rds 1 intC w Y d.yes) (hRn : Rds 1 intC w N d.no) :
  Calls Try.prog 83 #[.int .i64 x, .pointer (some ⟨bx, 0, none⟩)] w fun e w' => e = .returned (.bool (hasB d.yes x || hasB d.no x)) ∧ w' = w := by
  have x3 := (hB.cell 3).trans (show _ = some (.slice Y d.yes.length yc) from rfl)
  have x4 := (hB.cell 4).trans (show _ = some (.slice N d.no.length nc) from rfl)
  have h1 := containsE_is Y yc d.yes hy x w hRy
  have h2 := containsE_is N nc d.no hn x w hRn
  cases b1 : hasB d.yes x
  · rw [b1] at h1
    generalize hasB d.no x = b2 at *
    have H1 := Lib.hid h1; have H2 := Lib.hid h2
    clear h1 h2
    go_enter Try.func83, Try.ntmps83
    go_wp2_with fail
    refine (H1.out).mono ?_
    rintro e w0 ⟨rfl, h0⟩
    rw [h0]
    clear h0 w0
    go_wp2_with fail
    refine (H2.out).mono ?_
    rintro e w0 ⟨rfl, h0⟩
    rw [h0]
    clear h0 w0
    go_wp2
    go_ret
    exact ⟨rfl, rfl⟩
  · rw [b1] at h1
    have H1 := Lib.hid h1
    clear h1 h2
    go_enter Try.func83, Try.ntmps83
    go_wp2_with fail
    refine (H1.out).mono ?_
    rintro e w0 ⟨rfl, h0⟩
    rw [h0]
    clear h0 w0
    go_wp2
    go_ret
    exact ⟨rfl, rfl⟩
theorem delAbs_is (B g cap bx : Nat) (d : Dec) (Y N : Option Addr) (yc nc : Nat) (hy : d.yes.length ≤ 1048576) (hn : d.no.length ≤ 1048576) (ls : List Int) (hl : ls.length ≤ 1048576) (w : World) (hO : OwnV B 3 1 intC w (.slice (some ⟨g, 0, none⟩) ls.length cap) ls)
    (hB : Blk w bx 28 #[.int .i64 d.id, .int .i64 d.day, .int .i64 d.need, .slice Y d.yes.length yc, .slice N d.no.length nc, .bool d.done]) (hbx : bx ≠ g) (hRy : Rds 1 intC w Y d.yes) (hRn : Rds 1 intC w N d.no) (hYg : ∀ ad, Y = some ad → 0 < d.yes.length → ad.block ≠ g) (hNg : ∀ ad, N = some ad → 0 < d.no.length → ad.block ≠ g) :
  Calls Try.prog 82 #[.slice (some ⟨g, 0, none⟩) ls.length cap, .func (.func 83) #[] #[.pointer (some ⟨bx, 0, none⟩)]] w fun e w' =>
    e = .returned (.slice (some ⟨g, 0, none⟩) (ls.filter fun x => !(hasB d.yes x || hasB d.no x)).length cap) ∧ OwnV B 3 1 intC w' (.slice (some ⟨g, 0, none⟩) (ls.filter fun x => !(hasB d.yes x || hasB d.no x)).length cap) (ls.filter fun x => !(hasB d.yes x || hasB d.no x)) ∧ w.grownBy w' (some g) := by
  have hO' : OwnV B 3 1 (fun x => [Value.int .i64 x]) w (.slice (some ⟨g, 0, none⟩) ls.length cap) ls := hO
  obtain ⟨h1, h2, h3, h4⟩ := own_holds hO'
  have hp : PredAt Try.prog 83 #[.pointer (some ⟨bx, 0, none⟩)] (Value.int .i64) (fun x => hasB d.yes x || hasB d.no x) w := fun W x hW =>
    (absF_is bx d Y N yc nc hy hn x W (hB.below hW hB.lt) (hRy.below hW) (hRn.below hW)).mono fun e w' ⟨he, hw⟩ => ⟨he, 0, hw⟩
  have hpo : PredOver Try.prog 83 #[.pointer (some ⟨bx, 0, none⟩)] (Value.int .i64) (fun x => hasB d.yes x || hasB d.no x) g 0 ls.toArray.size w := fun n os dk x hk =>
    (absF_is bx d Y N yc nc hy hn x _ (hB.grownB grown_put hbx) (rds_far hRy grown_put hYg) (rds_far hRn grown_put hNg)).mono fun e w' ⟨he, hw⟩ => ⟨he, 0, hw⟩
  have h := Try.slices_DeleteFunc (Value.int .i64) (fun _ => rfl) (fun x => hasB d.yes x || hasB d.no x) 83 #[.pointer (some ⟨bx, 0, none⟩)] (enters_of Try.func83 (by kernel_rfl) rfl) 0 Try.zeroValue3 g 0 cap ls.toArray w hp hpo h1 (by simp; omega) (by simpa using h3)
  rw [List.size_toArray] at h
  refine h.mono ?_
  rintro e w' ⟨rfl, q, rfl⟩
  have hle : (ls.filter fun x => !(hasB d.yes x || hasB d.no x)).length ≤ ls.length := List.length_filter_le _ _
  have h5 := own_put (q := q) (os := #[]) (ys := (ls.filter fun x => !(hasB d.yes x || hasB d.no x)) ++ List.replicate (ls.length - (ls.filter fun x => !(hasB d.yes x || hasB d.no x)).length) 0) hO' (by rw [List.length_append, List.length_replicate]; omega) hle
  rw [List.take_left' rfl, grow_empty] at h5
  exact ⟨rfl, h5⟩
theorem delNil_is (A : Option Addr) (c : Nat) (fv : Value) (w : World) : Calls Try.prog 82 #[.slice A 0 c, fv] w fun e w' => e = .returned (.slice A 0 c) ∧ w' = w := by
  have H := Lib.hid (Try.slices_IndexFunc_empty (α := Int) A c fv)
  go_enter Try.func82, Try.ntmps82
  go_wp2_with fail
  refine (H.out _).mono ?_
  rintro e w0 ⟨rfl, h0⟩
  rw [h0]
  clear h0 w0
  go_wp2
  go_ret
  exact ⟨rfl, rfl⟩
theorem sidesB_len {ys ns : List Int} (h : sidesB ys ns = true) : ys.length ≤ 30 ∧ ns.length ≤ 30 := by
  simp only [sidesB, Bool.and_eq_true, decide_eq_true_eq] at h
  exact ⟨h.1, h.2.1⟩
set_option maxHeartbeats 2000000 in
set_option maxRecDepth 100000 in
theorem iAbsent_is (d : Dec) (Y N : Option Addr) (yc nc : Nat) (hy : d.yes.length ≤ 1048576) (hn : d.no.length ≤ 1048576) (E F : Option Addr) (ec fc : Nat) (es fs : List Int) (he : es.length ≤ 1048576) (hf : fs.length ≤ 1048576) (w : World)
    (hRy : Rds 1 intC w Y d.yes) (hRn : Rds 1 intC w N d.no) (hRe : Rds 1 intC w E es) (hRf : Rds 1 intC w F fs) (hEn : E = none → es = [] ∧ ec = 0) (hFn : F = none → fs = [] ∧ fc = 0) :
  Calls Try.prog 41 #[.agg #[.int .i64 d.id, .int .i64 d.day, .int .i64 d.need, .slice Y d.yes.length yc, .slice N d.no.length nc, .bool d.done], .slice E es.length ec, .slice F fs.length fc] w
    fun e w' => ∃ A c, e = .returned (.tuple #[.slice A (abL d es fs).length c, .bool (cmOk d es fs)]) ∧ OwnV w.heap.size 3 1 intC w' (.slice A (abL d es fs).length c) (abL d es fs) ∧ Below w.heap.size w w' := by
  cases hd : decB d
  · go_enter Try.func41, Try.ntmps41
    go_wp2_with fail
    refine (isValidDecided_is d Y N yc nc hy hn _ hd _ (hRy.below (bl1 _ _)) (hRn.below (bl1 _ _))).mono ?_
    rintro e w1 ⟨rfl, hb1⟩
    go_wp2
    go_ret2
    have h1 : cmOk d es fs = false := by simp [cmOk, hd]
    have h2 : abL d es fs = [] := by simp [abL, h1]
    rw [h1, h2]
    exact ⟨none, 0, rfl, OwnV.nil, bth (bl1 _ _) hb1⟩
  cases hs : sidesB es fs
  · go_enter Try.func41, Try.ntmps41
    go_wp2_with fail
    refine (isValidDecided_is d Y N yc nc hy hn _ hd _ (hRy.below (bl1 _ _)) (hRn.below (bl1 _ _))).mono ?_
    rintro e w1 ⟨rfl, hb1⟩
    have hb1' := bth (bl1 _ _) hb1
    go_wp2_with fail
    refine (areSides_is E F ec fc es fs he hf _ hs _ (hRe.below hb1') (hRf.below hb1')).mono ?_
    rintro e w2 ⟨rfl, hb2⟩
    go_wp2
    go_ret2
    have h1 : cmOk d es fs = false := by simp [cmOk, hs]
    have h2 : abL d es fs = [] := by simp [abL, h1]
    rw [h1, h2]
    exact ⟨none, 0, rfl, OwnV.nil, bth hb1' hb2⟩
  · have h1 : cmOk d es fs = true := by simp [cmOk, hs, hd]
    have h2 : abL d es fs = ((es ++ fs).mergeSort fun x y => decide (x ≤ y)).filter (fun x => !(hasB d.yes x || hasB d.no x)) := by rw [ab_sort d hs]; simp [abL, h1]
    obtain ⟨hl1, hl2⟩ := sidesB_len hs
    have H1 := Lib.hid h1; have H2 := Lib.hid h2; clear h1 h2
    have hYlt : ∀ ad, Y = some ad → 0 < d.yes.length → ad.block < w.heap.size := fun ad h h0 => by
      obtain ⟨b, off, h1, h2, _⟩ := hRy h0
      rw [h1] at h; cases h; exact h2
    have hNlt : ∀ ad, N = some ad → 0 < d.no.length → ad.block < w.heap.size := fun ad h h0 => by
      obtain ⟨b, off, h1, h2, _⟩ := hRn h0
      rw [h1] at h; cases h; exact h2
    go_enter Try.func41, Try.ntmps41
    go_wp2_with fail
    refine (isValidDecided_is d Y N yc nc hy hn _ hd _ (hRy.below (bl1 _ _)) (hRn.below (bl1 _ _))).mono ?_
    rintro e w1 ⟨rfl, hb1⟩
    have hX := Blk.below (Blk.new w 28 #[.int .i64 d.id, .int .i64 d.day, .int .i64 d.need, .slice Y d.yes.length yc, .slice N d.no.length nc, .bool d.done]) hb1 (by simp)
    have hb1' := bth (bl1 _ _) hb1
    go_wp2_with fail
    refine (areSides_is E F ec fc es fs he hf _ hs _ (hRe.below hb1') (hRf.below hb1')).mono ?_
    rintro e w2 ⟨rfl, hb2⟩
    have hb2' := bth hb1' hb2
    have hX2 := hX.below hb2 hX.lt
    have hX2l := hX2.lt
    clear hX hb1 hb1' hb2
    go_wp2_with fail
    refine (concat3_is (w2.heap.size + 1) w2.heap.size E F ec fc es fs (by omega) (by omega) _ (Blk.new2 _ _ _ _) (hRe.below (bth hb2' (bl2 _ _ _))) (hRf.below (bth hb2' (bl2 _ _ _))) hEn hFn).mono ?_
    rintro e w3 ⟨A3, c3, rfl, hO3, hb3⟩
    have hb3' : Below w2.heap.size w2 w3 := bth (bl2 _ _ _) hb3
    have hX3 := hX2.below hb3' hX2l
    have hB3 : Below w.heap.size w w3 := bth hb2' hb3'
    have z3 := hb2'.size
    have hO3' := hO3.base (B' := w2.heap.size) (by simp; omega)
    clear hX2 hb3 hb3' hO3
    rcases Nat.eq_zero_or_pos (es ++ fs).length with h0 | h0
    · have hnil : es ++ fs = [] := List.length_eq_zero_iff.1 h0
      rw [hnil] at hO3'
      have e0 : abL d es fs = [] := by rw [H2.out, hnil]; simp
      have E0 := Lib.hid e0; have HO := Lib.hid hO3'
      clear e0 hO3' hnil
      simp only [h0]
      have S0 := Lib.hid (Try.slices_Sort_int_none A3 c3)
      have D0 := Lib.hid (fun fv => delNil_is A3 c3 fv)
      go_wp2_with fail
      refine (S0.out _).mono ?_
      rintro e w0 ⟨rfl, h0⟩
      rw [h0]
      clear h0 w0
      go_wp2_with fail
      refine (D0.out _ _).mono ?_
      rintro e w0 ⟨rfl, h0⟩
      rw [h0]
      clear h0 w0
      go_wp2
      go_ret2
      rw [E0.out, H1.out]
      exact ⟨A3, c3, rfl, HO.out.base (by omega), hB3⟩
    · obtain ⟨g, cap, cs, hv, hBg, _, _, _, _, _⟩ := hO3'.whole intC_len h0
      injection hv with e1 _ e3
      subst e1; subst e3
      have hml : ((es ++ fs).mergeSort fun x y => decide (x ≤ y)).length = (es ++ fs).length := List.length_mergeSort _
      have hle : (es ++ fs).length ≤ 60 := by rw [List.length_append]; omega
      have S0 := Lib.hid (sortI_is w2.heap.size g c3 (es ++ fs) (by omega) w3 hO3')
      have hlt3 := (hO3'.lt g rfl).2
      generalize hls : (es ++ fs) = ls at *
      clear hls
      go_wp2_with fail
      refine S0.out.mono ?_
      rintro e w4 ⟨rfl, hO4, hg4⟩
      have D0 := delAbs_is w2.heap.size g c3 w.heap.size d Y N yc nc hy hn (ls.mergeSort fun x y => decide (x ≤ y)) (by omega) w4 (by rw [hml]; exact hO4) (hX3.grownB hg4 (by omega)) (by omega)
        (rds_far (hRy.below hB3) hg4 (fun ad h h0 => by have := hYlt ad h h0; omega)) (rds_far (hRn.below hB3) hg4 (fun ad h h0 => by have := hNlt ad h h0; omega)) (fun ad h h0 => by have := hYlt ad h h0; omega) (fun ad h h0 => by have := hNlt ad h h0; omega)
      rw [hml] at D0
      rw [← H2.out] at D0
      have D1 := Lib.hid D0
      clear D0
      go_wp2_with fail
      refine D1.out.mono ?_
      rintro e w5 ⟨rfl, hO5, hg5⟩
      go_wp2
      go_ret2
      rw [H1.out]
      exact ⟨some ⟨g, 0, none⟩, c3, rfl, hO5.base (by omega), (hB3.grown hg4 (by have := hB3.size; omega) (fun q hq => by cases hq; omega)).grown hg5 (by have := hB3.size; have := hg4.size; omega) (fun q hq => by cases hq; omega)⟩
end Go.Proofs.Ythgaddnbgnennaa
