/- Ordered outcomes: the insertion sort of the library. -/
import Derived.Test.YtbnncgahepcfnaaDoorOoP
import Derived.BigRegion
namespace Go.Proofs.YtbnncgahepcfnaaDoor
open Go.RowKit Go.G9
theorem rowD_zero (xs : List Res) : rowD xs 0 = rg xs.length := by simp [rowD, oo]
theorem rowD_one (xs : List Res) : rowD xs 1 = rg xs.length := by
  by_cases h : 0 < xs.length
  · have hx : xs[0]? = some xs[0] := List.getElem?_eq_getElem h
    rw [← rowD_zero, rowD_E h, rowE_end (j := 0) h hx rfl]
  · have : xs = [] := List.length_eq_zero_iff.1 (by omega)
    subst this; rfl
theorem rowD_end {xs : List Res} {k : Nat} (h1 : k ≤ xs.length ∨ k = 1) (h2 : ¬ k < xs.length) : rowD xs k = oo xs xs.length := by
  rcases h1 with h1 | h1
  · obtain rfl : k = xs.length := by omega
    have : (rg xs.length).drop xs.length = [] := List.drop_of_length_le (by rw [rg_len]; omega)
    rw [rowD, this, List.append_nil]
  · subst h1
    by_cases h : xs.length = 1
    · have : (rg xs.length).drop 1 = [] := List.drop_of_length_le (by rw [rg_len]; omega)
      rw [rowD, this, List.append_nil, h]
    · have : xs = [] := List.length_eq_zero_iff.1 (by omega)
      subst this; rfl
set_option maxHeartbeats 8000000 in
set_option maxRecDepth 100000 in
theorem insSort_is (b0 : Nat) (A : Option Addr) (c : Nat) (xs : List Res) (hr : reportB xs = true) (B g cap : Nat) (w : World) (hBg : B ≤ g) (hBw : B ≤ w.heap.size) (hb0 : b0 < B) (hA : ∀ ad, A = some ad → 0 < xs.length → ad.block < B)
    (hO : OwnV B 3 1 intC w (.slice (some ⟨g, 0, none⟩) xs.length cap) (rg xs.length)) (hcell : w.cell? ⟨b0, 0, none⟩ = some (.slice A xs.length c)) (hR : Rds 5 Res.cells w A xs) :
  Calls Tryd.prog 111 #[.slice (some ⟨g, 0, none⟩) xs.length cap, .int .i64 0, .int .i64 xs.length, .func (.func 59) #[] #[.pointer (some ⟨b0, 0, none⟩)]] w fun e w' =>
    e = .returned (.tuple #[]) ∧ OwnV B 3 1 intC w' (.slice (some ⟨g, 0, none⟩) xs.length cap) (oo xs xs.length) ∧ w.grownBy w' (some g) := by
  have hl12 := reportB_len hr
  have HF : Hid (∀ W, w.grownBy W (some g) → b0 < W.heap.size ∧ W.cell? ⟨b0, 0, none⟩ = some (.slice A xs.length c) ∧ Rds 5 Res.cells W A xs) := Lib.hid fun W h => by
    have h1 := h.size
    exact ⟨by omega, (World.cell?_of_block (a := ⟨b0, 0, none⟩) (h.block b0 (by omega) (fun e => by have := Option.some.inj e; omega))).trans hcell, if hn : 0 < xs.length then Rds.grown hR h (fun ad h2 e => by have := Option.some.inj e; have h4 := hA ad h2 hn; omega) else fun h0 => absurd h0 hn⟩
  have HRP := Lib.hid hr
  clear hR hcell hA hr
  go_enter Tryd.func111, Tryd.ntmps111
  go_wp2
  go_loopw [8, 9] (fun i _ wr => ∃ k : Nat, 1 ≤ k ∧ (k ≤ xs.length ∨ k = 1) ∧ i = .int .i64 k ∧ OwnV B 3 1 intC wr (.slice (some ⟨g, 0, none⟩) xs.length cap) (rowD xs k) ∧ w.grownBy wr (some g)) (fun i _ _ => xs.length - (intOf i).toNat)
  case atStart => exact ⟨1, Nat.le_refl _, .inr rfl, rfl, by rw [rowD_one]; exact hO, grown_refl _ _⟩
  case round =>
    clear hO
    obtain ⟨k, hk1, hk, rfl, hO1, hg1⟩ := hrel
    by_cases hlt : k < xs.length
    · obtain ⟨x, hx⟩ : ∃ x, xs[k]? = some x := ⟨_, List.getElem?_eq_getElem hlt⟩
      rw [rowD_E hlt] at hO1
      have HX := Lib.hid hx; clear hx
      have HO1 := Lib.hid hO1; clear hO1
      go_wp2
      go_loopw [9] (fun j ws => ∃ q : Nat, q ≤ k ∧ j = .int .i64 q ∧ scan (ooAt xs x) (oo xs k) k = scan (ooAt xs x) (oo xs k) q ∧ OwnV B 3 1 intC ws (.slice (some ⟨g, 0, none⟩) xs.length cap) (rowE xs k q) ∧ w.grownBy ws (some g)) (fun j _ => (intOf j).toNat)
      case atStart => exact ⟨k, Nat.le_refl _, rfl, rfl, HO1.out, hg1⟩
      case round =>
        clear HO1
        obtain ⟨q, hq, rfl, hsc, hO2, hg2⟩ := hrel
        have HO2 := Lib.hid hO2; have HS := Lib.hid hsc; clear hO2 hsc
        by_cases hq0 : q = 0
        · subst hq0
          go_wp2
          refine wp_region_kin (by kernel_rfl) (by kernel_rfl) ?_
          repeat (go_big_quiet_step ((fail)))
          refine wpQuiet_nil ?_
          intro K
          go_wp2
          go_roundw
          case rel => exact ⟨k + 1, by omega, .inl (by omega), by go_num, by rw [← rowE_end hlt HX.out HS.out]; exact HO2.out.later K.below, grown_tr hg2 (below_grown K.below _)⟩
          case measure => simp [intOf]; omega
        · obtain ⟨q', rfl⟩ : ∃ q', q = q' + 1 := ⟨q - 1, by omega⟩
          have hol := oo_len xs k (by omega)
          obtain ⟨zi, hzi, hz⟩ : ∃ zi : Nat, zi < k ∧ (oo xs k)[q']? = some (zi : Int) := by
            have h1 : q' < (oo xs k).length := by omega
            obtain ⟨zi, h2, h3⟩ := oo_mem xs k (by omega) _ (List.getElem_mem h1)
            exact ⟨zi, h2, by rw [List.getElem?_eq_getElem h1, h3]⟩
          obtain ⟨y, hy⟩ : ∃ y, xs[zi]? = some y := ⟨_, List.getElem?_eq_getElem (by omega)⟩
          obtain ⟨m1, nd1, y1, n1, a1, s1⟩ := x
          obtain ⟨m2, nd2, y2, n2, a2, s2⟩ := y
          have bx := resB_bd (reportB_at HRP.out HX.out)
          have bY := resB_bd (reportB_at HRP.out hy)
          obtain ⟨v, hv⟩ : ∃ v, ooCmp ⟨m1, nd1, y1, n1, a1, s1⟩ ⟨m2, nd2, y2, n2, a2, s2⟩ = v := ⟨_, rfl⟩
          have HC : Hid (∀ W, Below wr.heap.size wr W → Calls Tryd.prog 59 #[.int .i64 k, .int .i64 zi, .pointer (some ⟨b0, 0, none⟩)] W fun e w' => e = .returned (.int .i64 v) ∧ Below W.heap.size W w') := Lib.hid fun W hW => by
            obtain ⟨h1, h2, h3⟩ := HF.out W (grown_tr hg2 (below_grown hW _))
            exact ooCmpF_is b0 A c xs (by omega) k zi _ _ HX.out hy ⟨bx.1, bx.2.1, bx.2.2.1, bx.2.2.2.1⟩ ⟨bY.1, bY.2.1, bY.2.2.1, bY.2.2.2.1⟩ v hv W h1 h2 h3
          have hat : ooAt xs ⟨m1, nd1, y1, n1, a1, s1⟩ (zi : Int) = decide (v < 0) := by simp [ooAt, hy, hv]
          have HAT := Lib.hid hat; have HZ := Lib.hid hz
          have HE1 := Lib.hid (rowE_at hlt hq); have HE2 := Lib.hid (rowE_pre hlt (show q' < k by omega) hz)
          clear hat hz hv bx bY hy
          have c1 := fun K : Kin wr.heap.size wr => (own_cellI (HO2.out.later K.below) HE1.out).1
          have c2 := fun K : Kin wr.heap.size wr => (own_cellI (HO2.out.later K.below) HE2.out).1
          by_cases hneg : v < 0
          · go_wp2
            refine wp_region_kin (by kernel_rfl) (by kernel_rfl) ?_
            repeat (go_big_quiet_step ((go_at_call 59; exact Kin.call _ (by first | exact Nat.le_refl _ | omega) (HC.out _ (Kin.below _)))))
            refine wpQuiet_nil ?_
            intro K
            have hO3 := HO2.out.later K.below
            have hg3 := grown_tr hg2 (below_grown K.below _)
            clear c1 c2
            generalize K.world = WK at *
            obtain ⟨c1, f1⟩ := own_cellI hO3 HE1.out
            obtain ⟨c2, f2⟩ := own_cellI hO3 HE2.out
            have HO3 := Lib.hid hO3; clear hO3
            go_wp2
            go_region
            have hO4 : OwnV B 3 1 intC (World.drew (World.setCell (World.setCell WK ⟨g, q' + 1, none⟩ (.int .i64 zi)) ⟨g, q', none⟩ (.int .i64 k))) (.slice (some ⟨g, 0, none⟩) xs.length cap) (rowE xs k q') := by
              have h := own_setI (own_setI HO3.out (j := q' + 1) (by rw [rowE_len hlt hq]; omega) (zi : Int)) (j := q') (by rw [List.length_set, rowE_len hlt hq]; omega) (k : Int)
              rw [rowE_swap hlt (by omega) HZ.out] at h
              exact h.later (Below.refl _ _).drew
            have hg4 := grown_tr (grown_set (j := q') (grown_set (j := q' + 1) hg3 (.int .i64 zi)) (.int .i64 k)) (below_grown (Below.refl _ (World.setCell (World.setCell WK ⟨g, q' + 1, none⟩ (.int .i64 zi)) ⟨g, q', none⟩ (.int .i64 k))).drew (some g))
            clear c1 c2 f1 f2 HO3
            generalize (World.drew (World.setCell (World.setCell WK ⟨g, q' + 1, none⟩ (.int .i64 zi)) ⟨g, q', none⟩ (.int .i64 k))) = W4 at *
            go_wp2
            go_roundw
            case rel => exact ⟨q', by omega, by go_num, HS.out.trans (scan_yes HZ.out (by rw [HAT.out]; exact decide_eq_true hneg)), hO4, hg4⟩
            case measure => simp [intOf]
          · go_wp2
            refine wp_region_kin (by kernel_rfl) (by kernel_rfl) ?_
            repeat (go_big_quiet_step ((go_at_call 59; exact Kin.call _ (by first | exact Nat.le_refl _ | omega) (HC.out _ (Kin.below _)))))
            refine wpQuiet_nil ?_
            intro K
            have hO3 := HO2.out.later K.below
            have hg3 := grown_tr hg2 (below_grown K.below _)
            clear c1 c2
            generalize K.world = WK at *
            go_wp2
            go_roundw
            case rel => exact ⟨k + 1, by omega, .inl (by omega), by go_num, by rw [← rowE_end hlt HX.out (HS.out.trans (scan_no HZ.out (by rw [HAT.out]; exact decide_eq_false (by omega))))]; exact hO3, hg3⟩
            case measure => simp [intOf]; omega
    · go_wp2
      refine ⟨rfl, Value.tuple #[], by simp [results, Tryd.results111, go_sem], rfl, ?_, hg1⟩
      rw [← rowD_end hk hlt]; exact hO1
set_option maxHeartbeats 4000000 in
set_option maxRecDepth 100000 in
theorem stableCmp_is (b0 : Nat) (A : Option Addr) (c : Nat) (xs : List Res) (hr : reportB xs = true) (B g cap : Nat) (w : World) (hBg : B ≤ g) (hBw : B ≤ w.heap.size) (hb0 : b0 < B) (hA : ∀ ad, A = some ad → 0 < xs.length → ad.block < B)
    (hO : OwnV B 3 1 intC w (.slice (some ⟨g, 0, none⟩) xs.length cap) (rg xs.length)) (hcell : w.cell? ⟨b0, 0, none⟩ = some (.slice A xs.length c)) (hR : Rds 5 Res.cells w A xs) :
  Calls Tryd.prog 91 #[.slice (some ⟨g, 0, none⟩) xs.length cap, .int .i64 xs.length, .func (.func 59) #[] #[.pointer (some ⟨b0, 0, none⟩)]] w fun e w' =>
    e = .returned (.tuple #[]) ∧ OwnV B 3 1 intC w' (.slice (some ⟨g, 0, none⟩) xs.length cap) (oo xs xs.length) ∧ w.grownBy w' (some g) := by
  have hl12 := reportB_len hr
  have HI := Lib.hid (insSort_is b0 A c xs hr B g cap w hBg hBw hb0 hA hO hcell hR)
  clear hO hcell hR hA hr
  go_enter Tryd.func91, Tryd.ntmps91
  go_wp2
  go_loopw [7, 8] (fun a b wr => a = .int .i64 0 ∧ b = .int .i64 20 ∧ wr = w) (fun _ _ _ => 0)
  case atStart => exact ⟨rfl, rfl, rfl⟩
  case round =>
    obtain ⟨rfl, rfl, rfl⟩ := hrel
    go_wp2_with fail
    refine HI.out.mono ?_
    rintro e w1 ⟨rfl, hO1, hg1⟩
    go_wp2
    go_loopw [6, 7, 8] (fun a _ _ wr => a = .int .i64 20 ∧ wr = w1) (fun _ _ _ _ => 0)
    case atStart => exact ⟨rfl, rfl⟩
    case round =>
      obtain ⟨rfl, rfl⟩ := hrel
      go_wp2
      exact ⟨rfl, Value.tuple #[], by simp [results, Tryd.results91, go_sem], rfl, hO1, hg1⟩
theorem sortStable_is (b0 : Nat) (A : Option Addr) (c : Nat) (xs : List Res) (hr : reportB xs = true) (B g cap : Nat) (w : World) (hBg : B ≤ g) (hBw : B ≤ w.heap.size) (hb0 : b0 < B) (hA : ∀ ad, A = some ad → 0 < xs.length → ad.block < B)
    (hO : OwnV B 3 1 intC w (.slice (some ⟨g, 0, none⟩) xs.length cap) (rg xs.length)) (hcell : w.cell? ⟨b0, 0, none⟩ = some (.slice A xs.length c)) (hR : Rds 5 Res.cells w A xs) :
  Calls Tryd.prog 58 #[.slice (some ⟨g, 0, none⟩) xs.length cap, .func (.func 59) #[] #[.pointer (some ⟨b0, 0, none⟩)]] w fun e w' =>
    e = .returned (.tuple #[]) ∧ OwnV B 3 1 intC w' (.slice (some ⟨g, 0, none⟩) xs.length cap) (oo xs xs.length) ∧ w.grownBy w' (some g) := by
  have HI := Lib.hid (stableCmp_is b0 A c xs hr B g cap w hBg hBw hb0 hA hO hcell hR)
  clear hO hcell hR hA hr
  go_enter Tryd.func58, Tryd.ntmps58
  go_wp2_with fail
  refine HI.out.mono ?_
  rintro e w1 ⟨rfl, hO1, hg1⟩
  go_wp2
  exact ⟨rfl, Value.tuple #[], by simp [results, Tryd.results58, go_sem], rfl, hO1, hg1⟩
end Go.Proofs.YtbnncgahepcfnaaDoor
