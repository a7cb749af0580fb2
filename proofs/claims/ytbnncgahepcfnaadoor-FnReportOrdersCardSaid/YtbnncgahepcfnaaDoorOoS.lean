/- Ordered outcomes: the reference. -/
import Derived.Test.YtbnncgahepcfnaaDoorOoU
import Derived.Test.YtbnncgahepcfnaaDoorAppE
import Derived.Test.YtbnncgahepcfnaaDoorMkr
import Derived.Deep.CutBlock
import Derived.Deep.DeepCutAuto
namespace Go.Proofs.YtbnncgahepcfnaaDoor
open Go.RowKit Go.G9
theorem rds_takeO {T : Type} {sz : Nat} {f : T → List Value} {w : World} {A : Option Addr} {xs : List T} (h : Rds sz f w A xs) (k : Nat) : Rds sz f w A (xs.take k) := by
  intro h0
  obtain ⟨b, off, h1, h2, h3⟩ := h (by rw [List.length_take] at h0; omega)
  refine ⟨b, off, h1, h2, fun i x hx j u hu => h3 i x ?_ j u hu⟩
  rw [List.getElem?_take] at hx
  split at hx
  · exact hx
  · cases hx
theorem rds_dropO {T : Type} {sz : Nat} {f : T → List Value} {w : World} {b off : Nat} {xs : List T} (h : Rds sz f w (some ⟨b, off, none⟩) xs) (k : Nat) : Rds sz f w (some ⟨b, off + k * sz, none⟩) (xs.drop k) := by
  intro h0
  obtain ⟨b', off', h1, h2, h3⟩ := h (by rw [List.length_drop] at h0; omega)
  injection h1 with h1; injection h1 with h4 h5; subst h4; subst h5
  refine ⟨b, off + k * sz, rfl, h2, fun i x hx j u hu => ?_⟩
  rw [List.getElem?_drop] at hx
  have h6 := h3 (k + i) x hx j u hu
  rwa [Nat.add_mul, ← Nat.add_assoc] at h6
def ooS (B : Nat) (x : Int) (n4 : Nat) (ys : List Int) : MkSpec (Nat × Nat) where
  par := fun n => match n with
    | 4 => [0]
    | _ => []
  val := fun n p => match n with
    | 0 => .slice (some ⟨p.1, 0, none⟩) 0 0
    | 6 => .slice (some ⟨p.1, 0, none⟩) 1 1
    | 4 => .slice (some ⟨p.1, 0, none⟩) n4 p.2
    | _ => undef
  post := fun n σ p V0 V => match n with
    | 0 => V0.heap.size = p.1 ∧ B ≤ p.1 ∧ Blk V p.1 3 #[]
    | 6 => V0.heap.size = p.1 ∧ Blk V p.1 3 #[.int .i64 x]
    | 4 => (p.1 = (σ 0).1 ∨ V0.heap.size ≤ p.1) ∧ OwnV B 3 1 intC V (.slice (some ⟨p.1, 0, none⟩) n4 p.2) ys
    | _ => True
theorem ooCmp_neg {x y : Res} : ooCmp x y < 0 ↔ (x.ado = true ∧ y.ado = false) ∨ (x.ado = y.ado ∧ y.yes < x.yes) := by
  unfold ooCmp
  cases x.ado <;> cases y.ado <;> simp
  all_goals (split <;> (try split) <;> omega)
set_option maxHeartbeats 8000000 in
set_option maxRecDepth 100000 in
theorem sOrder_is (A : Option Addr) (c : Nat) (xs : List Res) (hn : xs.length ≤ 1048576) (w : World) (hR : Rds 5 Res.cells w A xs) :
  Calls Tryd.prog 24 #[.slice A xs.length c] w fun e w' => ∃ A c, e = .returned (.tuple #[.slice A (ooL xs).length c, .bool (reportB xs)]) ∧ OwnV w.heap.size 3 1 intC w' (.slice A (ooL xs).length c) (ooL xs) ∧ Below w.heap.size w w' := by
  obtain ⟨i0, hi, hz0, hz1, hz2⟩ := info_parts info_int
  cases hr : reportB xs
  · have h2 : ooL xs = [] := by simp [ooL, hr]
    rw [h2]
    have HR := Lib.hid hr
    go_enter Tryd.func24, Tryd.ntmps24
    go_wp2_with fail
    refine (l26Good_is A c xs hn _ HR.out _ (hR.below (bl1 _ _))).mono ?_
    rintro e w1 ⟨rfl, hb1⟩
    go_wp2
    go_ret2
    exact ⟨some ⟨w.heap.size, 0, none⟩, 0, rfl, (OwnV.made w (Nat.le_refl _) _).later hb1, bth (bl1 _ _) hb1⟩
  · have h2 : ooL xs = oo xs xs.length := by simp [ooL, hr]
    have H2 := Lib.hid h2; clear h2
    have hl := reportB_len hr
    have HR := Lib.hid hr; have HRD := Lib.hid hR
    clear hr hR
    go_enter Tryd.func24, Tryd.ntmps24
    go_wp2_with fail
    refine (l26Good_is A c xs hn _ HR.out _ (HRD.out.below (bl1 _ _))).mono ?_
    rintro e w1 ⟨rfl, hb1⟩
    have hO1 := (OwnV.made w (B := w.heap.size) (sz := 1) (f := intC) (Nat.le_refl _) 3).later hb1
    have hB1 := bth (bl1 w _) hb1
    go_wp2
    go_loopw [4, 5] (fun v i wr => ∃ k gv cv : Nat, k ≤ xs.length ∧ i = .int .i64 k ∧ v = .slice (some ⟨gv, 0, none⟩) k cv ∧ OwnV w.heap.size 3 1 intC wr (.slice (some ⟨gv, 0, none⟩) k cv) (oo xs k) ∧ Below w.heap.size w wr) (fun _ i _ => xs.length - (intOf i).toNat)
    case atStart => exact ⟨0, _, _, Nat.zero_le _, rfl, rfl, hO1, hB1⟩
    case round =>
      clear hO1 hB1
      obtain ⟨k, gv, cv, hk, rfl, rfl, hO, hb⟩ := hrel
      by_cases hlt : k < xs.length
      · obtain ⟨x, hx⟩ : ∃ x, xs[k]? = some x := ⟨_, List.getElem?_eq_getElem hlt⟩
        have hol := oo_len xs k (by omega)
        have HO := Lib.hid hO; have HX := Lib.hid hx; clear hO hx
        go_upto_block 2 with fail
        generalize wr = W0 at *
        go_cut [6] (fun s6 wx => ∃ q : Nat, q ≤ k ∧ s6 = .int .i64 q ∧ scan (ooAt xs x) (oo xs k) k = q ∧ Below W0.heap.size W0 wx)
        case first =>
          go_wp2_with fail
          go_loopw [6] (fun j ws => ∃ q : Nat, q ≤ k ∧ j = .int .i64 q ∧ scan (ooAt xs x) (oo xs k) k = scan (ooAt xs x) (oo xs k) q ∧ Below W0.heap.size W0 ws) (fun j _ => (intOf j).toNat)
          case atStart => exact ⟨k, Nat.le_refl _, rfl, rfl, Below.refl _ _⟩
          case round =>
            obtain ⟨q, hq, rfl, hsc, hbq⟩ := hrel
            have HS := Lib.hid hsc; clear hsc
            by_cases hq0 : q = 0
            · subst hq0
              go_wp2
              go_meet
              exact ⟨0, Nat.zero_le _, rfl, HS.out, hbq⟩
            · obtain ⟨q', rfl⟩ : ∃ q', q = q' + 1 := ⟨q - 1, by omega⟩
              obtain ⟨zi, hzi, hz⟩ : ∃ zi : Nat, zi < k ∧ (oo xs k)[q']? = some (zi : Int) := by
                have h1 : q' < (oo xs k).length := by omega
                obtain ⟨zi, h2, h3⟩ := oo_mem xs k (by omega) _ (List.getElem_mem h1)
                exact ⟨zi, h2, by rw [List.getElem?_eq_getElem h1, h3]⟩
              obtain ⟨y, hy⟩ : ∃ y, xs[zi]? = some y := ⟨_, List.getElem?_eq_getElem (by omega)⟩
              have hAT : ooAt xs x (zi : Int) = decide (ooCmp x y < 0) := by simp [ooAt, hy]
              obtain ⟨b, off, x', rfl, hbl, hx', hcx⟩ := HRD.out.at_ (bth hb hbq) hlt
              obtain ⟨b', off', y', hae, _, hy', hcy⟩ := HRD.out.at_ (bth hb hbq) (show zi < xs.length by omega)
              obtain ⟨rfl, rfl⟩ : b = b' ∧ off = off' := by injection hae with hae; injection hae with h1 h2; exact ⟨h1, h2⟩
              obtain rfl : x = x' := Option.some.inj (HX.out.symm.trans hx')
              obtain rfl : y = y' := Option.some.inj (hy.symm.trans hy')
              obtain ⟨m1, nd1, y1, n1, a1, s1⟩ := x
              obtain ⟨m2, nd2, y2, n2, a2, s2⟩ := y
              have bx := resB_bd (reportB_at HR.out HX.out)
              have bY := resB_bd (reportB_at HR.out hy)
              have HAT := Lib.hid hAT; have HZ := Lib.hid hz; clear hAT
              have f0 := hcx 0 _ rfl (Kin.self _)
              have f1 := hcx 1 _ rfl (Kin.self _)
              have f2 := hcx 2 _ rfl (Kin.self _)
              have f3 := hcx 3 _ rfl (Kin.self _)
              have f4 := hcx 4 _ rfl (Kin.self _)
              have g0 := hcy 0 _ rfl (Kin.self _)
              have g1 := hcy 1 _ rfl (Kin.self _)
              have g2 := hcy 2 _ rfl (Kin.self _)
              have g3 := hcy 3 _ rfl (Kin.self _)
              have g4 := hcy 4 _ rfl (Kin.self _)
              simp only [Nat.add_zero, Kin.self] at f0 f1 f2 f3 f4 g0 g1 g2 g3 g4
              have c2 := (own_cellI (HO.out.later hbq) hz).1
              have hgl : gv < wr.heap.size := ((HO.out.later hbq).lt gv rfl).2
              clear hcx hcy hx' hy' hy hae hz
              go_wp2
              go_region
              · have hY : Blk (World.drew (World.alloc (World.alloc wr (Obj.cells #[.string m2, .int .i64 nd2, .int .i64 y2, .int .i64 n2, .int .i64 a2] 31)) (Obj.cells #[.string m1, .int .i64 nd1, .int .i64 y1, .int .i64 n1, .int .i64 a1] 31))) wr.heap.size 31 #[.string m2, .int .i64 nd2, .int .i64 y2, .int .i64 n2, .int .i64 a2] := (Blk.new wr _ _).alloc _
                have hX : Blk (World.drew (World.alloc (World.alloc wr (Obj.cells #[.string m2, .int .i64 nd2, .int .i64 y2, .int .i64 n2, .int .i64 a2] 31)) (Obj.cells #[.string m1, .int .i64 nd1, .int .i64 y1, .int .i64 n1, .int .i64 a1] 31))) (wr.heap.size + 1) 31 #[.string m1, .int .i64 nd1, .int .i64 y1, .int .i64 n1, .int .i64 a1] := Blk.new2 wr _ _ _
                have HBW : Below W0.heap.size W0 (World.drew (World.alloc (World.alloc wr (Obj.cells #[.string m2, .int .i64 nd2, .int .i64 y2, .int .i64 n2, .int .i64 a2] 31)) (Obj.cells #[.string m1, .int .i64 nd1, .int .i64 y1, .int .i64 n1, .int .i64 a1] 31))) := bth hbq (bl2 wr _ _).drew
                clear f0 f1 f2 f3 f4 g0 g1 g2 g3 g4 c2
                generalize World.drew (World.alloc (World.alloc wr (Obj.cells #[.string m2, .int .i64 nd2, .int .i64 y2, .int .i64 n2, .int .i64 a2] 31)) (Obj.cells #[.string m1, .int .i64 nd1, .int .i64 y1, .int .i64 n1, .int .i64 a1] 31)) = WA at *
                cases ha : adoB nd1 y1 n1 <;> cases hb2 : adoB nd2 y2 n2
                · have HA := Lib.hid ha; have HB2 := Lib.hid hb2; clear ha hb2
                  by_cases hge : y1 ≤ y2
                  · have xc0 := fun K : Kin WA.heap.size WA => ((hX.below K.below hX.lt).cell 0).trans (show _ = some (.string m1) from rfl)
                    have xc1 := fun K : Kin WA.heap.size WA => ((hX.below K.below hX.lt).cell 1).trans (show _ = some (.int .i64 nd1) from rfl)
                    have xc2 := fun K : Kin WA.heap.size WA => ((hX.below K.below hX.lt).cell 2).trans (show _ = some (.int .i64 y1) from rfl)
                    have xc3 := fun K : Kin WA.heap.size WA => ((hX.below K.below hX.lt).cell 3).trans (show _ = some (.int .i64 n1) from rfl)
                    have xc4 := fun K : Kin WA.heap.size WA => ((hX.below K.below hX.lt).cell 4).trans (show _ = some (.int .i64 a1) from rfl)
                    have yc0 := fun K : Kin WA.heap.size WA => ((hY.below K.below hY.lt).cell 0).trans (show _ = some (.string m2) from rfl)
                    have yc1 := fun K : Kin WA.heap.size WA => ((hY.below K.below hY.lt).cell 1).trans (show _ = some (.int .i64 nd2) from rfl)
                    have yc2 := fun K : Kin WA.heap.size WA => ((hY.below K.below hY.lt).cell 2).trans (show _ = some (.int .i64 y2) from rfl)
                    have yc3 := fun K : Kin WA.heap.size WA => ((hY.below K.below hY.lt).cell 3).trans (show _ = some (.int .i64 n2) from rfl)
                    have yc4 := fun K : Kin WA.heap.size WA => ((hY.below K.below hY.lt).cell 4).trans (show _ = some (.int .i64 a2) from rfl)
                    go_wp2
                    refine wp_region_kin (by kernel_rfl) (by kernel_rfl) ?_
                    repeat (go_big_quiet_step (fail))
                    go_big_quiet_step ((go_at_call 51; exact Kin.call _ (by first | exact Nat.le_refl _ | omega) (l26Adopted_is m2 nd2 y2 n2 a2 ⟨bY.1, bY.2.1, bY.2.2.1, bY.2.2.2.1⟩ _ HB2.out _)))
                    repeat (go_big_quiet_step (fail))
                    go_big_quiet_step ((go_at_call 51; exact Kin.call _ (by first | exact Nat.le_refl _ | omega) (l26Adopted_is m2 nd2 y2 n2 a2 ⟨bY.1, bY.2.1, bY.2.2.1, bY.2.2.2.1⟩ _ HB2.out _)))
                    repeat (go_big_quiet_step (fail))
                    go_big_quiet_step ((go_at_call 51; exact Kin.call _ (by first | exact Nat.le_refl _ | omega) (l26Adopted_is m1 nd1 y1 n1 a1 ⟨bx.1, bx.2.1, bx.2.2.1, bx.2.2.2.1⟩ _ HA.out _)))
                    repeat (go_big_quiet_step (fail))
                    refine wpQuiet_nil ?_
                    intro K
                    have HBK := bth HBW K.below
                    clear xc0 yc0 xc1 yc1 xc2 yc2 xc3 yc3 xc4 yc4
                    generalize K.world = WB at *
                    go_wp2
                    go_meet
                    exact ⟨q' + 1, hq, by go_num, HS.out.trans (scan_no HZ.out (by rw [HAT.out]; exact decide_eq_false (by rw [ooCmp_neg]; simp [Res.ado, HA.out, HB2.out]; omega))), HBK⟩
                  · have xc0 := fun K : Kin WA.heap.size WA => ((hX.below K.below hX.lt).cell 0).trans (show _ = some (.string m1) from rfl)
                    have xc1 := fun K : Kin WA.heap.size WA => ((hX.below K.below hX.lt).cell 1).trans (show _ = some (.int .i64 nd1) from rfl)
                    have xc2 := fun K : Kin WA.heap.size WA => ((hX.below K.below hX.lt).cell 2).trans (show _ = some (.int .i64 y1) from rfl)
                    have xc3 := fun K : Kin WA.heap.size WA => ((hX.below K.below hX.lt).cell 3).trans (show _ = some (.int .i64 n1) from rfl)
                    have xc4 := fun K : Kin WA.heap.size WA => ((hX.below K.below hX.lt).cell 4).trans (show _ = some (.int .i64 a1) from rfl)
                    have yc0 := fun K : Kin WA.heap.size WA => ((hY.below K.below hY.lt).cell 0).trans (show _ = some (.string m2) from rfl)
                    have yc1 := fun K : Kin WA.heap.size WA => ((hY.below K.below hY.lt).cell 1).trans (show _ = some (.int .i64 nd2) from rfl)
                    have yc2 := fun K : Kin WA.heap.size WA => ((hY.below K.below hY.lt).cell 2).trans (show _ = some (.int .i64 y2) from rfl)
                    have yc3 := fun K : Kin WA.heap.size WA => ((hY.below K.below hY.lt).cell 3).trans (show _ = some (.int .i64 n2) from rfl)
                    have yc4 := fun K : Kin WA.heap.size WA => ((hY.below K.below hY.lt).cell 4).trans (show _ = some (.int .i64 a2) from rfl)
                    go_wp2
                    refine wp_region_kin (by kernel_rfl) (by kernel_rfl) ?_
                    repeat (go_big_quiet_step (fail))
                    go_big_quiet_step ((go_at_call 51; exact Kin.call _ (by first | exact Nat.le_refl _ | omega) (l26Adopted_is m2 nd2 y2 n2 a2 ⟨bY.1, bY.2.1, bY.2.2.1, bY.2.2.2.1⟩ _ HB2.out _)))
                    repeat (go_big_quiet_step (fail))
                    go_big_quiet_step ((go_at_call 51; exact Kin.call _ (by first | exact Nat.le_refl _ | omega) (l26Adopted_is m2 nd2 y2 n2 a2 ⟨bY.1, bY.2.1, bY.2.2.1, bY.2.2.2.1⟩ _ HB2.out _)))
                    repeat (go_big_quiet_step (fail))
                    go_big_quiet_step ((go_at_call 51; exact Kin.call _ (by first | exact Nat.le_refl _ | omega) (l26Adopted_is m1 nd1 y1 n1 a1 ⟨bx.1, bx.2.1, bx.2.2.1, bx.2.2.2.1⟩ _ HA.out _)))
                    repeat (go_big_quiet_step (fail))
                    refine wpQuiet_nil ?_
                    intro K
                    have HBK := bth HBW K.below
                    clear xc0 yc0 xc1 yc1 xc2 yc2 xc3 yc3 xc4 yc4
                    generalize K.world = WB at *
                    go_wp2
                    go_roundw
                    case rel => exact ⟨q', by omega, by go_num, HS.out.trans (scan_yes HZ.out (by rw [HAT.out]; exact decide_eq_true (by rw [ooCmp_neg]; simp [Res.ado, HA.out, HB2.out]; omega))), HBK⟩
                    case measure => simp [intOf]
                · have HA := Lib.hid ha; have HB2 := Lib.hid hb2; clear ha hb2
                  · have xc0 := fun K : Kin WA.heap.size WA => ((hX.below K.below hX.lt).cell 0).trans (show _ = some (.string m1) from rfl)
                    have xc1 := fun K : Kin WA.heap.size WA => ((hX.below K.below hX.lt).cell 1).trans (show _ = some (.int .i64 nd1) from rfl)
                    have xc2 := fun K : Kin WA.heap.size WA => ((hX.below K.below hX.lt).cell 2).trans (show _ = some (.int .i64 y1) from rfl)
                    have xc3 := fun K : Kin WA.heap.size WA => ((hX.below K.below hX.lt).cell 3).trans (show _ = some (.int .i64 n1) from rfl)
                    have xc4 := fun K : Kin WA.heap.size WA => ((hX.below K.below hX.lt).cell 4).trans (show _ = some (.int .i64 a1) from rfl)
                    have yc0 := fun K : Kin WA.heap.size WA => ((hY.below K.below hY.lt).cell 0).trans (show _ = some (.string m2) from rfl)
                    have yc1 := fun K : Kin WA.heap.size WA => ((hY.below K.below hY.lt).cell 1).trans (show _ = some (.int .i64 nd2) from rfl)
                    have yc2 := fun K : Kin WA.heap.size WA => ((hY.below K.below hY.lt).cell 2).trans (show _ = some (.int .i64 y2) from rfl)
                    have yc3 := fun K : Kin WA.heap.size WA => ((hY.below K.below hY.lt).cell 3).trans (show _ = some (.int .i64 n2) from rfl)
                    have yc4 := fun K : Kin WA.heap.size WA => ((hY.below K.below hY.lt).cell 4).trans (show _ = some (.int .i64 a2) from rfl)
                    go_wp2
                    refine wp_region_kin (by kernel_rfl) (by kernel_rfl) ?_
                    repeat (go_big_quiet_step (fail))
                    go_big_quiet_step ((go_at_call 51; exact Kin.call _ (by first | exact Nat.le_refl _ | omega) (l26Adopted_is m2 nd2 y2 n2 a2 ⟨bY.1, bY.2.1, bY.2.2.1, bY.2.2.2.1⟩ _ HB2.out _)))
                    repeat (go_big_quiet_step (fail))
                    go_big_quiet_step ((go_at_call 51; exact Kin.call _ (by first | exact Nat.le_refl _ | omega) (l26Adopted_is m1 nd1 y1 n1 a1 ⟨bx.1, bx.2.1, bx.2.2.1, bx.2.2.2.1⟩ _ HA.out _)))
                    repeat (go_big_quiet_step (fail))
                    refine wpQuiet_nil ?_
                    intro K
                    have HBK := bth HBW K.below
                    clear xc0 yc0 xc1 yc1 xc2 yc2 xc3 yc3 xc4 yc4
                    generalize K.world = WB at *
                    go_wp2
                    go_meet
                    exact ⟨q' + 1, hq, by go_num, HS.out.trans (scan_no HZ.out (by rw [HAT.out]; exact decide_eq_false (by rw [ooCmp_neg]; simp [Res.ado, HA.out, HB2.out]))), HBK⟩
                · have HA := Lib.hid ha; have HB2 := Lib.hid hb2; clear ha hb2
                  · have xc0 := fun K : Kin WA.heap.size WA => ((hX.below K.below hX.lt).cell 0).trans (show _ = some (.string m1) from rfl)
                    have xc1 := fun K : Kin WA.heap.size WA => ((hX.below K.below hX.lt).cell 1).trans (show _ = some (.int .i64 nd1) from rfl)
                    have xc2 := fun K : Kin WA.heap.size WA => ((hX.below K.below hX.lt).cell 2).trans (show _ = some (.int .i64 y1) from rfl)
                    have xc3 := fun K : Kin WA.heap.size WA => ((hX.below K.below hX.lt).cell 3).trans (show _ = some (.int .i64 n1) from rfl)
                    have xc4 := fun K : Kin WA.heap.size WA => ((hX.below K.below hX.lt).cell 4).trans (show _ = some (.int .i64 a1) from rfl)
                    have yc0 := fun K : Kin WA.heap.size WA => ((hY.below K.below hY.lt).cell 0).trans (show _ = some (.string m2) from rfl)
                    have yc1 := fun K : Kin WA.heap.size WA => ((hY.below K.below hY.lt).cell 1).trans (show _ = some (.int .i64 nd2) from rfl)
                    have yc2 := fun K : Kin WA.heap.size WA => ((hY.below K.below hY.lt).cell 2).trans (show _ = some (.int .i64 y2) from rfl)
                    have yc3 := fun K : Kin WA.heap.size WA => ((hY.below K.below hY.lt).cell 3).trans (show _ = some (.int .i64 n2) from rfl)
                    have yc4 := fun K : Kin WA.heap.size WA => ((hY.below K.below hY.lt).cell 4).trans (show _ = some (.int .i64 a2) from rfl)
                    go_wp2
                    refine wp_region_kin (by kernel_rfl) (by kernel_rfl) ?_
                    repeat (go_big_quiet_step (fail))
                    go_big_quiet_step ((go_at_call 51; exact Kin.call _ (by first | exact Nat.le_refl _ | omega) (l26Adopted_is m2 nd2 y2 n2 a2 ⟨bY.1, bY.2.1, bY.2.2.1, bY.2.2.2.1⟩ _ HB2.out _)))
                    repeat (go_big_quiet_step (fail))
                    go_big_quiet_step ((go_at_call 51; exact Kin.call _ (by first | exact Nat.le_refl _ | omega) (l26Adopted_is m2 nd2 y2 n2 a2 ⟨bY.1, bY.2.1, bY.2.2.1, bY.2.2.2.1⟩ _ HB2.out _)))
                    repeat (go_big_quiet_step (fail))
                    go_big_quiet_step ((go_at_call 51; exact Kin.call _ (by first | exact Nat.le_refl _ | omega) (l26Adopted_is m1 nd1 y1 n1 a1 ⟨bx.1, bx.2.1, bx.2.2.1, bx.2.2.2.1⟩ _ HA.out _)))
                    repeat (go_big_quiet_step (fail))
                    refine wpQuiet_nil ?_
                    intro K
                    have HBK := bth HBW K.below
                    clear xc0 yc0 xc1 yc1 xc2 yc2 xc3 yc3 xc4 yc4
                    generalize K.world = WB at *
                    go_wp2
                    go_roundw
                    case rel => exact ⟨q', by omega, by go_num, HS.out.trans (scan_yes HZ.out (by rw [HAT.out]; exact decide_eq_true (by rw [ooCmp_neg]; simp [Res.ado, HA.out, HB2.out]))), HBK⟩
                    case measure => simp [intOf]
                · have HA := Lib.hid ha; have HB2 := Lib.hid hb2; clear ha hb2
                  by_cases hge : y1 ≤ y2
                  · have xc0 := fun K : Kin WA.heap.size WA => ((hX.below K.below hX.lt).cell 0).trans (show _ = some (.string m1) from rfl)
                    have xc1 := fun K : Kin WA.heap.size WA => ((hX.below K.below hX.lt).cell 1).trans (show _ = some (.int .i64 nd1) from rfl)
                    have xc2 := fun K : Kin WA.heap.size WA => ((hX.below K.below hX.lt).cell 2).trans (show _ = some (.int .i64 y1) from rfl)
                    have xc3 := fun K : Kin WA.heap.size WA => ((hX.below K.below hX.lt).cell 3).trans (show _ = some (.int .i64 n1) from rfl)
                    have xc4 := fun K : Kin WA.heap.size WA => ((hX.below K.below hX.lt).cell 4).trans (show _ = some (.int .i64 a1) from rfl)
                    have yc0 := fun K : Kin WA.heap.size WA => ((hY.below K.below hY.lt).cell 0).trans (show _ = some (.string m2) from rfl)
                    have yc1 := fun K : Kin WA.heap.size WA => ((hY.below K.below hY.lt).cell 1).trans (show _ = some (.int .i64 nd2) from rfl)
                    have yc2 := fun K : Kin WA.heap.size WA => ((hY.below K.below hY.lt).cell 2).trans (show _ = some (.int .i64 y2) from rfl)
                    have yc3 := fun K : Kin WA.heap.size WA => ((hY.below K.below hY.lt).cell 3).trans (show _ = some (.int .i64 n2) from rfl)
                    have yc4 := fun K : Kin WA.heap.size WA => ((hY.below K.below hY.lt).cell 4).trans (show _ = some (.int .i64 a2) from rfl)
                    go_wp2
                    refine wp_region_kin (by kernel_rfl) (by kernel_rfl) ?_
                    repeat (go_big_quiet_step (fail))
                    go_big_quiet_step ((go_at_call 51; exact Kin.call _ (by first | exact Nat.le_refl _ | omega) (l26Adopted_is m2 nd2 y2 n2 a2 ⟨bY.1, bY.2.1, bY.2.2.1, bY.2.2.2.1⟩ _ HB2.out _)))
                    repeat (go_big_quiet_step (fail))
                    go_big_quiet_step ((go_at_call 51; exact Kin.call _ (by first | exact Nat.le_refl _ | omega) (l26Adopted_is m1 nd1 y1 n1 a1 ⟨bx.1, bx.2.1, bx.2.2.1, bx.2.2.2.1⟩ _ HA.out _)))
                    repeat (go_big_quiet_step (fail))
                    go_big_quiet_step ((go_at_call 51; exact Kin.call _ (by first | exact Nat.le_refl _ | omega) (l26Adopted_is m2 nd2 y2 n2 a2 ⟨bY.1, bY.2.1, bY.2.2.1, bY.2.2.2.1⟩ _ HB2.out _)))
                    repeat (go_big_quiet_step (fail))
                    go_big_quiet_step ((go_at_call 51; exact Kin.call _ (by first | exact Nat.le_refl _ | omega) (l26Adopted_is m1 nd1 y1 n1 a1 ⟨bx.1, bx.2.1, bx.2.2.1, bx.2.2.2.1⟩ _ HA.out _)))
                    repeat (go_big_quiet_step (fail))
                    refine wpQuiet_nil ?_
                    intro K
                    have HBK := bth HBW K.below
                    clear xc0 yc0 xc1 yc1 xc2 yc2 xc3 yc3 xc4 yc4
                    generalize K.world = WB at *
                    go_wp2
                    go_meet
                    exact ⟨q' + 1, hq, by go_num, HS.out.trans (scan_no HZ.out (by rw [HAT.out]; exact decide_eq_false (by rw [ooCmp_neg]; simp [Res.ado, HA.out, HB2.out]; omega))), HBK⟩
                  · have xc0 := fun K : Kin WA.heap.size WA => ((hX.below K.below hX.lt).cell 0).trans (show _ = some (.string m1) from rfl)
                    have xc1 := fun K : Kin WA.heap.size WA => ((hX.below K.below hX.lt).cell 1).trans (show _ = some (.int .i64 nd1) from rfl)
                    have xc2 := fun K : Kin WA.heap.size WA => ((hX.below K.below hX.lt).cell 2).trans (show _ = some (.int .i64 y1) from rfl)
                    have xc3 := fun K : Kin WA.heap.size WA => ((hX.below K.below hX.lt).cell 3).trans (show _ = some (.int .i64 n1) from rfl)
                    have xc4 := fun K : Kin WA.heap.size WA => ((hX.below K.below hX.lt).cell 4).trans (show _ = some (.int .i64 a1) from rfl)
                    have yc0 := fun K : Kin WA.heap.size WA => ((hY.below K.below hY.lt).cell 0).trans (show _ = some (.string m2) from rfl)
                    have yc1 := fun K : Kin WA.heap.size WA => ((hY.below K.below hY.lt).cell 1).trans (show _ = some (.int .i64 nd2) from rfl)
                    have yc2 := fun K : Kin WA.heap.size WA => ((hY.below K.below hY.lt).cell 2).trans (show _ = some (.int .i64 y2) from rfl)
                    have yc3 := fun K : Kin WA.heap.size WA => ((hY.below K.below hY.lt).cell 3).trans (show _ = some (.int .i64 n2) from rfl)
                    have yc4 := fun K : Kin WA.heap.size WA => ((hY.below K.below hY.lt).cell 4).trans (show _ = some (.int .i64 a2) from rfl)
                    go_wp2
                    refine wp_region_kin (by kernel_rfl) (by kernel_rfl) ?_
                    repeat (go_big_quiet_step (fail))
                    go_big_quiet_step ((go_at_call 51; exact Kin.call _ (by first | exact Nat.le_refl _ | omega) (l26Adopted_is m2 nd2 y2 n2 a2 ⟨bY.1, bY.2.1, bY.2.2.1, bY.2.2.2.1⟩ _ HB2.out _)))
                    repeat (go_big_quiet_step (fail))
                    go_big_quiet_step ((go_at_call 51; exact Kin.call _ (by first | exact Nat.le_refl _ | omega) (l26Adopted_is m1 nd1 y1 n1 a1 ⟨bx.1, bx.2.1, bx.2.2.1, bx.2.2.2.1⟩ _ HA.out _)))
                    repeat (go_big_quiet_step (fail))
                    go_big_quiet_step ((go_at_call 51; exact Kin.call _ (by first | exact Nat.le_refl _ | omega) (l26Adopted_is m2 nd2 y2 n2 a2 ⟨bY.1, bY.2.1, bY.2.2.1, bY.2.2.2.1⟩ _ HB2.out _)))
                    repeat (go_big_quiet_step (fail))
                    go_big_quiet_step ((go_at_call 51; exact Kin.call _ (by first | exact Nat.le_refl _ | omega) (l26Adopted_is m1 nd1 y1 n1 a1 ⟨bx.1, bx.2.1, bx.2.2.1, bx.2.2.2.1⟩ _ HA.out _)))
                    repeat (go_big_quiet_step (fail))
                    refine wpQuiet_nil ?_
                    intro K
                    have HBK := bth HBW K.below
                    clear xc0 yc0 xc1 yc1 xc2 yc2 xc3 yc3 xc4 yc4
                    generalize K.world = WB at *
                    go_wp2
                    go_roundw
                    case rel => exact ⟨q', by omega, by go_num, HS.out.trans (scan_yes HZ.out (by rw [HAT.out]; exact decide_eq_true (by rw [ooCmp_neg]; simp [Res.ado, HA.out, HB2.out]; omega))), HBK⟩
                    case measure => simp [intOf]
              · have hX : Blk (World.drew (World.alloc (World.alloc wr (Obj.cells #[.string m1, .int .i64 nd1, .int .i64 y1, .int .i64 n1, .int .i64 a1] 31)) (Obj.cells #[.string m2, .int .i64 nd2, .int .i64 y2, .int .i64 n2, .int .i64 a2] 31))) wr.heap.size 31 #[.string m1, .int .i64 nd1, .int .i64 y1, .int .i64 n1, .int .i64 a1] := (Blk.new wr _ _).alloc _
                have hY : Blk (World.drew (World.alloc (World.alloc wr (Obj.cells #[.string m1, .int .i64 nd1, .int .i64 y1, .int .i64 n1, .int .i64 a1] 31)) (Obj.cells #[.string m2, .int .i64 nd2, .int .i64 y2, .int .i64 n2, .int .i64 a2] 31))) (wr.heap.size + 1) 31 #[.string m2, .int .i64 nd2, .int .i64 y2, .int .i64 n2, .int .i64 a2] := Blk.new2 wr _ _ _
                have HBW : Below W0.heap.size W0 (World.drew (World.alloc (World.alloc wr (Obj.cells #[.string m1, .int .i64 nd1, .int .i64 y1, .int .i64 n1, .int .i64 a1] 31)) (Obj.cells #[.string m2, .int .i64 nd2, .int .i64 y2, .int .i64 n2, .int .i64 a2] 31))) := bth hbq (bl2 wr _ _).drew
                clear f0 f1 f2 f3 f4 g0 g1 g2 g3 g4 c2
                generalize World.drew (World.alloc (World.alloc wr (Obj.cells #[.string m1, .int .i64 nd1, .int .i64 y1, .int .i64 n1, .int .i64 a1] 31)) (Obj.cells #[.string m2, .int .i64 nd2, .int .i64 y2, .int .i64 n2, .int .i64 a2] 31)) = WA at *
                cases ha : adoB nd1 y1 n1 <;> cases hb2 : adoB nd2 y2 n2
                · have HA := Lib.hid ha; have HB2 := Lib.hid hb2; clear ha hb2
                  by_cases hge : y1 ≤ y2
                  · have xc0 := fun K : Kin WA.heap.size WA => ((hX.below K.below hX.lt).cell 0).trans (show _ = some (.string m1) from rfl)
                    have xc1 := fun K : Kin WA.heap.size WA => ((hX.below K.below hX.lt).cell 1).trans (show _ = some (.int .i64 nd1) from rfl)
                    have xc2 := fun K : Kin WA.heap.size WA => ((hX.below K.below hX.lt).cell 2).trans (show _ = some (.int .i64 y1) from rfl)
                    have xc3 := fun K : Kin WA.heap.size WA => ((hX.below K.below hX.lt).cell 3).trans (show _ = some (.int .i64 n1) from rfl)
                    have xc4 := fun K : Kin WA.heap.size WA => ((hX.below K.below hX.lt).cell 4).trans (show _ = some (.int .i64 a1) from rfl)
                    have yc0 := fun K : Kin WA.heap.size WA => ((hY.below K.below hY.lt).cell 0).trans (show _ = some (.string m2) from rfl)
                    have yc1 := fun K : Kin WA.heap.size WA => ((hY.below K.below hY.lt).cell 1).trans (show _ = some (.int .i64 nd2) from rfl)
                    have yc2 := fun K : Kin WA.heap.size WA => ((hY.below K.below hY.lt).cell 2).trans (show _ = some (.int .i64 y2) from rfl)
                    have yc3 := fun K : Kin WA.heap.size WA => ((hY.below K.below hY.lt).cell 3).trans (show _ = some (.int .i64 n2) from rfl)
                    have yc4 := fun K : Kin WA.heap.size WA => ((hY.below K.below hY.lt).cell 4).trans (show _ = some (.int .i64 a2) from rfl)
                    go_wp2
                    refine wp_region_kin (by kernel_rfl) (by kernel_rfl) ?_
                    repeat (go_big_quiet_step (fail))
                    go_big_quiet_step ((go_at_call 51; exact Kin.call _ (by first | exact Nat.le_refl _ | omega) (l26Adopted_is m2 nd2 y2 n2 a2 ⟨bY.1, bY.2.1, bY.2.2.1, bY.2.2.2.1⟩ _ HB2.out _)))
                    repeat (go_big_quiet_step (fail))
                    go_big_quiet_step ((go_at_call 51; exact Kin.call _ (by first | exact Nat.le_refl _ | omega) (l26Adopted_is m2 nd2 y2 n2 a2 ⟨bY.1, bY.2.1, bY.2.2.1, bY.2.2.2.1⟩ _ HB2.out _)))
                    repeat (go_big_quiet_step (fail))
                    go_big_quiet_step ((go_at_call 51; exact Kin.call _ (by first | exact Nat.le_refl _ | omega) (l26Adopted_is m1 nd1 y1 n1 a1 ⟨bx.1, bx.2.1, bx.2.2.1, bx.2.2.2.1⟩ _ HA.out _)))
                    repeat (go_big_quiet_step (fail))
                    refine wpQuiet_nil ?_
                    intro K
                    have HBK := bth HBW K.below
                    clear xc0 yc0 xc1 yc1 xc2 yc2 xc3 yc3 xc4 yc4
                    generalize K.world = WB at *
                    go_wp2
                    go_meet
                    exact ⟨q' + 1, hq, by go_num, HS.out.trans (scan_no HZ.out (by rw [HAT.out]; exact decide_eq_false (by rw [ooCmp_neg]; simp [Res.ado, HA.out, HB2.out]; omega))), HBK⟩
                  · have xc0 := fun K : Kin WA.heap.size WA => ((hX.below K.below hX.lt).cell 0).trans (show _ = some (.string m1) from rfl)
                    have xc1 := fun K : Kin WA.heap.size WA => ((hX.below K.below hX.lt).cell 1).trans (show _ = some (.int .i64 nd1) from rfl)
                    have xc2 := fun K : Kin WA.heap.size WA => ((hX.below K.below hX.lt).cell 2).trans (show _ = some (.int .i64 y1) from rfl)
                    have xc3 := fun K : Kin WA.heap.size WA => ((hX.below K.below hX.lt).cell 3).trans (show _ = some (.int .i64 n1) from rfl)
                    have xc4 := fun K : Kin WA.heap.size WA => ((hX.below K.below hX.lt).cell 4).trans (show _ = some (.int .i64 a1) from rfl)
                    have yc0 := fun K : Kin WA.heap.size WA => ((hY.below K.below hY.lt).cell 0).trans (show _ = some (.string m2) from rfl)
                    have yc1 := fun K : Kin WA.heap.size WA => ((hY.below K.below hY.lt).cell 1).trans (show _ = some (.int .i64 nd2) from rfl)
                    have yc2 := fun K : Kin WA.heap.size WA => ((hY.below K.below hY.lt).cell 2).trans (show _ = some (.int .i64 y2) from rfl)
                    have yc3 := fun K : Kin WA.heap.size WA => ((hY.below K.below hY.lt).cell 3).trans (show _ = some (.int .i64 n2) from rfl)
                    have yc4 := fun K : Kin WA.heap.size WA => ((hY.below K.below hY.lt).cell 4).trans (show _ = some (.int .i64 a2) from rfl)
                    go_wp2
                    refine wp_region_kin (by kernel_rfl) (by kernel_rfl) ?_
                    repeat (go_big_quiet_step (fail))
                    go_big_quiet_step ((go_at_call 51; exact Kin.call _ (by first | exact Nat.le_refl _ | omega) (l26Adopted_is m2 nd2 y2 n2 a2 ⟨bY.1, bY.2.1, bY.2.2.1, bY.2.2.2.1⟩ _ HB2.out _)))
                    repeat (go_big_quiet_step (fail))
                    go_big_quiet_step ((go_at_call 51; exact Kin.call _ (by first | exact Nat.le_refl _ | omega) (l26Adopted_is m2 nd2 y2 n2 a2 ⟨bY.1, bY.2.1, bY.2.2.1, bY.2.2.2.1⟩ _ HB2.out _)))
                    repeat (go_big_quiet_step (fail))
                    go_big_quiet_step ((go_at_call 51; exact Kin.call _ (by first | exact Nat.le_refl _ | omega) (l26Adopted_is m1 nd1 y1 n1 a1 ⟨bx.1, bx.2.1, bx.2.2.1, bx.2.2.2.1⟩ _ HA.out _)))
                    repeat (go_big_quiet_step (fail))
                    refine wpQuiet_nil ?_
                    intro K
                    have HBK := bth HBW K.below
                    clear xc0 yc0 xc1 yc1 xc2 yc2 xc3 yc3 xc4 yc4
                    generalize K.world = WB at *
                    go_wp2
                    go_roundw
                    case rel => exact ⟨q', by omega, by go_num, HS.out.trans (scan_yes HZ.out (by rw [HAT.out]; exact decide_eq_true (by rw [ooCmp_neg]; simp [Res.ado, HA.out, HB2.out]; omega))), HBK⟩
                    case measure => simp [intOf]
                · have HA := Lib.hid ha; have HB2 := Lib.hid hb2; clear ha hb2
                  · have xc0 := fun K : Kin WA.heap.size WA => ((hX.below K.below hX.lt).cell 0).trans (show _ = some (.string m1) from rfl)
                    have xc1 := fun K : Kin WA.heap.size WA => ((hX.below K.below hX.lt).cell 1).trans (show _ = some (.int .i64 nd1) from rfl)
                    have xc2 := fun K : Kin WA.heap.size WA => ((hX.below K.below hX.lt).cell 2).trans (show _ = some (.int .i64 y1) from rfl)
                    have xc3 := fun K : Kin WA.heap.size WA => ((hX.below K.below hX.lt).cell 3).trans (show _ = some (.int .i64 n1) from rfl)
                    have xc4 := fun K : Kin WA.heap.size WA => ((hX.below K.below hX.lt).cell 4).trans (show _ = some (.int .i64 a1) from rfl)
                    have yc0 := fun K : Kin WA.heap.size WA => ((hY.below K.below hY.lt).cell 0).trans (show _ = some (.string m2) from rfl)
                    have yc1 := fun K : Kin WA.heap.size WA => ((hY.below K.below hY.lt).cell 1).trans (show _ = some (.int .i64 nd2) from rfl)
                    have yc2 := fun K : Kin WA.heap.size WA => ((hY.below K.below hY.lt).cell 2).trans (show _ = some (.int .i64 y2) from rfl)
                    have yc3 := fun K : Kin WA.heap.size WA => ((hY.below K.below hY.lt).cell 3).trans (show _ = some (.int .i64 n2) from rfl)
                    have yc4 := fun K : Kin WA.heap.size WA => ((hY.below K.below hY.lt).cell 4).trans (show _ = some (.int .i64 a2) from rfl)
                    go_wp2
                    refine wp_region_kin (by kernel_rfl) (by kernel_rfl) ?_
                    repeat (go_big_quiet_step (fail))
                    go_big_quiet_step ((go_at_call 51; exact Kin.call _ (by first | exact Nat.le_refl _ | omega) (l26Adopted_is m2 nd2 y2 n2 a2 ⟨bY.1, bY.2.1, bY.2.2.1, bY.2.2.2.1⟩ _ HB2.out _)))
                    repeat (go_big_quiet_step (fail))
                    go_big_quiet_step ((go_at_call 51; exact Kin.call _ (by first | exact Nat.le_refl _ | omega) (l26Adopted_is m1 nd1 y1 n1 a1 ⟨bx.1, bx.2.1, bx.2.2.1, bx.2.2.2.1⟩ _ HA.out _)))
                    repeat (go_big_quiet_step (fail))
                    refine wpQuiet_nil ?_
                    intro K
                    have HBK := bth HBW K.below
                    clear xc0 yc0 xc1 yc1 xc2 yc2 xc3 yc3 xc4 yc4
                    generalize K.world = WB at *
                    go_wp2
                    go_meet
                    exact ⟨q' + 1, hq, by go_num, HS.out.trans (scan_no HZ.out (by rw [HAT.out]; exact decide_eq_false (by rw [ooCmp_neg]; simp [Res.ado, HA.out, HB2.out]))), HBK⟩
                · have HA := Lib.hid ha; have HB2 := Lib.hid hb2; clear ha hb2
                  · have xc0 := fun K : Kin WA.heap.size WA => ((hX.below K.below hX.lt).cell 0).trans (show _ = some (.string m1) from rfl)
                    have xc1 := fun K : Kin WA.heap.size WA => ((hX.below K.below hX.lt).cell 1).trans (show _ = some (.int .i64 nd1) from rfl)
                    have xc2 := fun K : Kin WA.heap.size WA => ((hX.below K.below hX.lt).cell 2).trans (show _ = some (.int .i64 y1) from rfl)
                    have xc3 := fun K : Kin WA.heap.size WA => ((hX.below K.below hX.lt).cell 3).trans (show _ = some (.int .i64 n1) from rfl)
                    have xc4 := fun K : Kin WA.heap.size WA => ((hX.below K.below hX.lt).cell 4).trans (show _ = some (.int .i64 a1) from rfl)
                    have yc0 := fun K : Kin WA.heap.size WA => ((hY.below K.below hY.lt).cell 0).trans (show _ = some (.string m2) from rfl)
                    have yc1 := fun K : Kin WA.heap.size WA => ((hY.below K.below hY.lt).cell 1).trans (show _ = some (.int .i64 nd2) from rfl)
                    have yc2 := fun K : Kin WA.heap.size WA => ((hY.below K.below hY.lt).cell 2).trans (show _ = some (.int .i64 y2) from rfl)
                    have yc3 := fun K : Kin WA.heap.size WA => ((hY.below K.below hY.lt).cell 3).trans (show _ = some (.int .i64 n2) from rfl)
                    have yc4 := fun K : Kin WA.heap.size WA => ((hY.below K.below hY.lt).cell 4).trans (show _ = some (.int .i64 a2) from rfl)
                    go_wp2
                    refine wp_region_kin (by kernel_rfl) (by kernel_rfl) ?_
                    repeat (go_big_quiet_step (fail))
                    go_big_quiet_step ((go_at_call 51; exact Kin.call _ (by first | exact Nat.le_refl _ | omega) (l26Adopted_is m2 nd2 y2 n2 a2 ⟨bY.1, bY.2.1, bY.2.2.1, bY.2.2.2.1⟩ _ HB2.out _)))
                    repeat (go_big_quiet_step (fail))
                    go_big_quiet_step ((go_at_call 51; exact Kin.call _ (by first | exact Nat.le_refl _ | omega) (l26Adopted_is m2 nd2 y2 n2 a2 ⟨bY.1, bY.2.1, bY.2.2.1, bY.2.2.2.1⟩ _ HB2.out _)))
                    repeat (go_big_quiet_step (fail))
                    go_big_quiet_step ((go_at_call 51; exact Kin.call _ (by first | exact Nat.le_refl _ | omega) (l26Adopted_is m1 nd1 y1 n1 a1 ⟨bx.1, bx.2.1, bx.2.2.1, bx.2.2.2.1⟩ _ HA.out _)))
                    repeat (go_big_quiet_step (fail))
                    refine wpQuiet_nil ?_
                    intro K
                    have HBK := bth HBW K.below
                    clear xc0 yc0 xc1 yc1 xc2 yc2 xc3 yc3 xc4 yc4
                    generalize K.world = WB at *
                    go_wp2
                    go_roundw
                    case rel => exact ⟨q', by omega, by go_num, HS.out.trans (scan_yes HZ.out (by rw [HAT.out]; exact decide_eq_true (by rw [ooCmp_neg]; simp [Res.ado, HA.out, HB2.out]))), HBK⟩
                    case measure => simp [intOf]
                · have HA := Lib.hid ha; have HB2 := Lib.hid hb2; clear ha hb2
                  by_cases hge : y1 ≤ y2
                  · have xc0 := fun K : Kin WA.heap.size WA => ((hX.below K.below hX.lt).cell 0).trans (show _ = some (.string m1) from rfl)
                    have xc1 := fun K : Kin WA.heap.size WA => ((hX.below K.below hX.lt).cell 1).trans (show _ = some (.int .i64 nd1) from rfl)
                    have xc2 := fun K : Kin WA.heap.size WA => ((hX.below K.below hX.lt).cell 2).trans (show _ = some (.int .i64 y1) from rfl)
                    have xc3 := fun K : Kin WA.heap.size WA => ((hX.below K.below hX.lt).cell 3).trans (show _ = some (.int .i64 n1) from rfl)
                    have xc4 := fun K : Kin WA.heap.size WA => ((hX.below K.below hX.lt).cell 4).trans (show _ = some (.int .i64 a1) from rfl)
                    have yc0 := fun K : Kin WA.heap.size WA => ((hY.below K.below hY.lt).cell 0).trans (show _ = some (.string m2) from rfl)
                    have yc1 := fun K : Kin WA.heap.size WA => ((hY.below K.below hY.lt).cell 1).trans (show _ = some (.int .i64 nd2) from rfl)
                    have yc2 := fun K : Kin WA.heap.size WA => ((hY.below K.below hY.lt).cell 2).trans (show _ = some (.int .i64 y2) from rfl)
                    have yc3 := fun K : Kin WA.heap.size WA => ((hY.below K.below hY.lt).cell 3).trans (show _ = some (.int .i64 n2) from rfl)
                    have yc4 := fun K : Kin WA.heap.size WA => ((hY.below K.below hY.lt).cell 4).trans (show _ = some (.int .i64 a2) from rfl)
                    go_wp2
                    refine wp_region_kin (by kernel_rfl) (by kernel_rfl) ?_
                    repeat (go_big_quiet_step (fail))
                    go_big_quiet_step ((go_at_call 51; exact Kin.call _ (by first | exact Nat.le_refl _ | omega) (l26Adopted_is m2 nd2 y2 n2 a2 ⟨bY.1, bY.2.1, bY.2.2.1, bY.2.2.2.1⟩ _ HB2.out _)))
                    repeat (go_big_quiet_step (fail))
                    go_big_quiet_step ((go_at_call 51; exact Kin.call _ (by first | exact Nat.le_refl _ | omega) (l26Adopted_is m1 nd1 y1 n1 a1 ⟨bx.1, bx.2.1, bx.2.2.1, bx.2.2.2.1⟩ _ HA.out _)))
                    repeat (go_big_quiet_step (fail))
                    go_big_quiet_step ((go_at_call 51; exact Kin.call _ (by first | exact Nat.le_refl _ | omega) (l26Adopted_is m2 nd2 y2 n2 a2 ⟨bY.1, bY.2.1, bY.2.2.1, bY.2.2.2.1⟩ _ HB2.out _)))
                    repeat (go_big_quiet_step (fail))
                    go_big_quiet_step ((go_at_call 51; exact Kin.call _ (by first | exact Nat.le_refl _ | omega) (l26Adopted_is m1 nd1 y1 n1 a1 ⟨bx.1, bx.2.1, bx.2.2.1, bx.2.2.2.1⟩ _ HA.out _)))
                    repeat (go_big_quiet_step (fail))
                    refine wpQuiet_nil ?_
                    intro K
                    have HBK := bth HBW K.below
                    clear xc0 yc0 xc1 yc1 xc2 yc2 xc3 yc3 xc4 yc4
                    generalize K.world = WB at *
                    go_wp2
                    go_meet
                    exact ⟨q' + 1, hq, by go_num, HS.out.trans (scan_no HZ.out (by rw [HAT.out]; exact decide_eq_false (by rw [ooCmp_neg]; simp [Res.ado, HA.out, HB2.out]; omega))), HBK⟩
                  · have xc0 := fun K : Kin WA.heap.size WA => ((hX.below K.below hX.lt).cell 0).trans (show _ = some (.string m1) from rfl)
                    have xc1 := fun K : Kin WA.heap.size WA => ((hX.below K.below hX.lt).cell 1).trans (show _ = some (.int .i64 nd1) from rfl)
                    have xc2 := fun K : Kin WA.heap.size WA => ((hX.below K.below hX.lt).cell 2).trans (show _ = some (.int .i64 y1) from rfl)
                    have xc3 := fun K : Kin WA.heap.size WA => ((hX.below K.below hX.lt).cell 3).trans (show _ = some (.int .i64 n1) from rfl)
                    have xc4 := fun K : Kin WA.heap.size WA => ((hX.below K.below hX.lt).cell 4).trans (show _ = some (.int .i64 a1) from rfl)
                    have yc0 := fun K : Kin WA.heap.size WA => ((hY.below K.below hY.lt).cell 0).trans (show _ = some (.string m2) from rfl)
                    have yc1 := fun K : Kin WA.heap.size WA => ((hY.below K.below hY.lt).cell 1).trans (show _ = some (.int .i64 nd2) from rfl)
                    have yc2 := fun K : Kin WA.heap.size WA => ((hY.below K.below hY.lt).cell 2).trans (show _ = some (.int .i64 y2) from rfl)
                    have yc3 := fun K : Kin WA.heap.size WA => ((hY.below K.below hY.lt).cell 3).trans (show _ = some (.int .i64 n2) from rfl)
                    have yc4 := fun K : Kin WA.heap.size WA => ((hY.below K.below hY.lt).cell 4).trans (show _ = some (.int .i64 a2) from rfl)
                    go_wp2
                    refine wp_region_kin (by kernel_rfl) (by kernel_rfl) ?_
                    repeat (go_big_quiet_step (fail))
                    go_big_quiet_step ((go_at_call 51; exact Kin.call _ (by first | exact Nat.le_refl _ | omega) (l26Adopted_is m2 nd2 y2 n2 a2 ⟨bY.1, bY.2.1, bY.2.2.1, bY.2.2.2.1⟩ _ HB2.out _)))
                    repeat (go_big_quiet_step (fail))
                    go_big_quiet_step ((go_at_call 51; exact Kin.call _ (by first | exact Nat.le_refl _ | omega) (l26Adopted_is m1 nd1 y1 n1 a1 ⟨bx.1, bx.2.1, bx.2.2.1, bx.2.2.2.1⟩ _ HA.out _)))
                    repeat (go_big_quiet_step (fail))
                    go_big_quiet_step ((go_at_call 51; exact Kin.call _ (by first | exact Nat.le_refl _ | omega) (l26Adopted_is m2 nd2 y2 n2 a2 ⟨bY.1, bY.2.1, bY.2.2.1, bY.2.2.2.1⟩ _ HB2.out _)))
                    repeat (go_big_quiet_step (fail))
                    go_big_quiet_step ((go_at_call 51; exact Kin.call _ (by first | exact Nat.le_refl _ | omega) (l26Adopted_is m1 nd1 y1 n1 a1 ⟨bx.1, bx.2.1, bx.2.2.1, bx.2.2.2.1⟩ _ HA.out _)))
                    repeat (go_big_quiet_step (fail))
                    refine wpQuiet_nil ?_
                    intro K
                    have HBK := bth HBW K.below
                    clear xc0 yc0 xc1 yc1 xc2 yc2 xc3 yc3 xc4 yc4
                    generalize K.world = WB at *
                    go_wp2
                    go_roundw
                    case rel => exact ⟨q', by omega, by go_num, HS.out.trans (scan_yes HZ.out (by rw [HAT.out]; exact decide_eq_true (by rw [ooCmp_neg]; simp [Res.ado, HA.out, HB2.out]; omega))), HBK⟩
                    case measure => simp [intOf]
        case rest =>
          obtain ⟨q0, hq, rfl, hsc, hbc⟩ := hcut
          have HBC := bth hb hbc
          have hOC := HO.out.later hbc
          have hins : oo xs (k + 1) = (oo xs k).take q0 ++ (k : Int) :: (oo xs k).drop q0 := by rw [oo, HX.out]; simp only [insO, hol, hsc]
          have hl2 := oo_len xs (k + 1) (by omega)
          have hcv : k ≤ cv := by
            obtain ⟨A9, c9, h1, h2, _⟩ := hOC.form intC_len
            injection h1 with _ _ h3
            omega
          obtain ⟨out, hout⟩ : ∃ out, oo xs k = out := ⟨_, rfl⟩
          rw [hout] at hOC hol hins
          clear HO hsc HX hout
          obtain rfl : k = out.length := hol.symm
          have HINS := Lib.hid hins; have HL2 := Lib.hid hl2; clear hins hl2 hol
          generalize wc = WC at *
          clear hbc
          rcases Nat.lt_or_ge q0 cv with hcc | hcc
          · have hcc' : q0 < cv := hcc
            have hO12 := hOC
            go_wp2
            haveI : Nonempty (Hld (fun V => Below WC.heap.size WC V)) := ⟨⟨WC, Below.refl _ _⟩⟩
            refine wp_region_mk (ooS WC.heap.size (out.length : Int) q0 (out.take q0)) (fun V => Below WC.heap.size WC V) [([], 0), ([5], 6), ([1, 2, 3], 4)] [8, 9, 10] [([], 7), ([], 11)] [12] (by kernel_rfl) (by kernel_rfl) (Below.refl _ _).drew (fun V V' h k => h.trans (k.mono h.size)) ?_
            intro σ
            have hjl : (out.take q0).length = q0 := by first | rfl | (rw [List.length_take]; omega)
            have hjm : q0 ≤ 1000 := by omega
            refine wpMk1_cons (some 61) rfl (.slice (some ⟨(σ 0).1, 0, none⟩) 0 0) rfl fun K1 hK1 => ?_
            change wpQuiet _ _ _ _ ([]) _
            refine wpQuiet_nil ?_
            refine ⟨fun k hpar => ?_, hK1 _ ?_⟩
            · change wpList _ _ _ (_ :: []) _ _
              go_wp2
              first | exact Nrm_mk ⟨(_, 0), rfl, bl1 _ _, rfl, k.holds.size, Blk.new _ _ _⟩ | exact Nrm_mk ⟨_, 0, rfl, bl1 _ _, rfl, k.holds.size, Blk.new _ _ _⟩
            simp only [Act.put]
            go_simp
            refine wpMk1_cons (some 67) rfl (.slice (some ⟨(σ 6).1, 0, none⟩) 1 1) rfl fun K1 hK1 => ?_
            change wpQuiet _ _ _ _ (_ :: []) _
            repeat (go_big_quiet_step (fail))
            refine wpQuiet_nil ?_
            refine ⟨fun k hpar => ?_, hK1 _ ?_⟩
            · change wpList _ _ _ (_ :: []) _ _
              go_wp2
              first | exact Nrm_mk ⟨(_, 0), rfl, bl1 _ _, rfl, Blk.new _ _ _⟩ | exact Nrm_mk ⟨_, 0, rfl, bl1 _ _, rfl, Blk.new _ _ _⟩
            simp only [Act.put]
            go_simp
            refine wpMk1_cons (some 65) rfl (.slice (some ⟨(σ 4).1, 0, none⟩) q0 (σ 4).2) rfl fun K1 hK1 => ?_
            change wpQuiet _ _ _ _ (_ :: _ :: _ :: []) _
            repeat (go_big_quiet_step (fail))
            refine wpQuiet_nil ?_
            refine ⟨fun k hpar => ?_, hK1 _ ?_⟩
            · change wpList _ _ _ (_ :: []) _ _
              obtain ⟨U0, U, hU1, ⟨hU2, hU3, hU4⟩, hU5⟩ := hpar 0 (by simp [ooS])
              have hU6 := hU4.below hU5 hU4.lt
              have hUR : Rds 1 intC k.world (some ⟨gv, 0, none⟩) (out.take q0) := by first | exact rds_takeO ((hO12.rds (hf := intC_len)).below k.holds) q0 | exact (hO12.rds (hf := intC_len)).below k.holds
              have HUR := Lib.hid hUR; have HU6 := Lib.hid hU6
              clear hUR hU6 hU4 hU2 hU1 hU5 hpar
              go_wp2_with ((at_builtin; refine wpList_appE rfl _ _ 44 rfl WC.heap.size 3 i0 _ 1 8 Tryd.underlying44 hi hz0 hz1 hz2 rfl (by decide) intC intC_len intC_one (σ 0).1 rfl HU6.out hU3 ⟨gv, 0, none⟩ cv (out.take q0) (by first | rfl | (rw [hjl]; rfl)) HUR.out (by unfold maxLen; first | omega | (rw [hjl]; omega)) (by first | omega | (rw [hjl]; omega)) ?_; intro g' c' w' hO' hb' hor))
              try rw [hjl] at hO'
              first | exact Nrm_mk ⟨(g', c'), rfl, hb', hor, hO'⟩ | exact Nrm_mk ⟨g', c', rfl, hb', hor, hO'⟩
            simp only [Act.put]
            go_simp
            refine wpMk1_last ?_
            change wpQuiet _ _ _ _ (_ :: _ :: _ :: []) _
            repeat (go_big_quiet_step (fail))
            refine wpQuiet_nil ?_
            intro V0 V W hM hW
            obtain ⟨p6, P6⟩ : (V0 6).heap.size = (σ 6).1 ∧ Blk (V 6) (σ 6).1 3 #[.int .i64 (out.length : Int)] := hM.post 6 (by simp)
            obtain ⟨hor, P4⟩ : ((σ 4).1 = (σ 0).1 ∨ (V0 4).heap.size ≤ (σ 4).1) ∧ OwnV WC.heap.size 3 1 intC (V 4) (.slice (some ⟨(σ 4).1, 0, none⟩) q0 (σ 4).2) (out.take q0) := hM.post 4 (by simp)
            obtain ⟨p00, _, P00⟩ : (V0 0).heap.size = (σ 0).1 ∧ WC.heap.size ≤ (σ 0).1 ∧ Blk (V 0) (σ 0).1 3 #[] := hM.post 0 (by simp)
            have Q4 := P4.later (hM.later 4 (by simp))
            have Q6 : Blk W (σ 6).1 3 #[.int .i64 (out.length : Int)] := P6.below (hM.later 6 (by simp)) P6.lt
            have hne : (σ 6).1 ≠ (σ 4).1 := by
              have a1 := P6.lt
              have a2 : (σ 4).1 < (V 4).heap.size := (P4.lt _ rfl).2
              have a3 := P00.lt
              rcases hor with ho | ho
              · rcases hM.apart 0 (by simp) 6 (by simp) (by decide) with h | h <;> omega
              · rcases hM.apart 4 (by simp) 6 (by simp) (by decide) with h | h <;> omega
            clear hM P6 P4 p6 P00 p00 hor
            generalize (σ 0) = p0 at *
            generalize (σ 6) = p6 at *
            generalize (σ 4) = p4 at *
            obtain ⟨g4, c4⟩ := p4
            obtain ⟨g6, c6⟩ := p6
            simp only at Q4 Q6 hne
            have hR1' : Rds 1 intC W (some ⟨g6, 0, none⟩) [(out.length : Int)] := fun _ => ⟨g6, 0, rfl, Q6.lt, fun i y hy q u hu => by
              have h0 : i = 0 := by have := (List.getElem?_eq_some_iff.1 hy).1; simp at this; omega
              subst h0; simp at hy; subst hy
              rw [Nat.zero_mul, Nat.zero_add]
              exact (Q6.cell q).trans (by simpa [intC] using hu)⟩
            have HR1 := Lib.hid hR1'; have HO1 := Lib.hid Q4
            clear hR1' Q4
            refine wpMix_cons fun K2 hK2 => ?_
            change wpQuiet _ _ _ _ ([]) _
            refine wpQuiet_nil ?_
            change wpList _ _ _ (_ :: []) _ _
            go_wp2_with ((at_builtin; refine wpList_app rfl _ _ 44 rfl WC.heap.size 3 i0 _ 1 8 Tryd.underlying44 hi hz0 hz1 hz2 rfl (by decide) intC intC_len intC_one _ (out.take q0) rfl HO1.out (some ⟨g6, 0, none⟩) 1 [(out.length : Int)] rfl HR1.out (fun h => by cases h) (by unfold maxLen; simp; omega) (by simp; omega) (by have := hW.size; omega) ?_; intro v2 u2 hO2 hg2))
            have hW2 : Below WC.heap.size WC u2 := hW.grown hg2 (by have := hW.size; omega) (fun q hq => (HO1.out.lt q hq).1)
            refine Nrm_intro (hW2) (hK2 _ _ ?_)
            have hRd : Rds 1 intC u2 (some ⟨gv, q0, none⟩) (out.drop q0) := by
              have h := rds_dropO ((hO12.rds (hf := intC_len)).below hW2) q0
              simpa using h
            have HRd := Lib.hid hRd; have HO2 := Lib.hid hO2
            have hdl : (out.drop q0).length = out.length - q0 := List.length_drop
            clear hRd hO2
            refine wpMix_cons fun K2 hK2 => ?_
            change wpQuiet _ _ _ _ ([]) _
            refine wpQuiet_nil ?_
            change wpList _ _ _ (_ :: []) _ _
            go_wp2_with ((at_builtin; refine wpList_app rfl _ _ 44 rfl WC.heap.size 3 i0 _ 1 8 Tryd.underlying44 hi hz0 hz1 hz2 rfl (by decide) intC intC_len intC_one _ (out.take q0 ++ [(out.length : Int)]) rfl HO2.out (some ⟨gv, q0, none⟩) (cv - q0) (out.drop q0) (by rw [hdl]; rfl) HRd.out (fun h => by cases h) (by unfold maxLen; simp; omega) (by simp; omega) (by have := hW2.size; omega) ?_; intro v3 u3 hO3 hg3))
            have hW3 : Below WC.heap.size WC u3 := hW2.grown hg3 (by have := hW2.size; omega) (fun q hq => (HO2.out.lt q hq).1)
            refine Nrm_intro (hW3) (hK2 _ _ ?_)
            refine wpMix_last ?_
            change wpQuiet _ _ _ _ (_ :: []) _
            repeat (go_big_quiet_step (fail))
            refine wpQuiet_nil ?_
            have e : oo xs (out.length + 1) = out.take q0 ++ [(out.length : Int)] ++ out.drop q0 := by rw [HINS.out]; simp
            rw [← e] at hO3
            obtain ⟨g3, c3, rfl, _⟩ := own_some hO3 (by rw [HL2.out]; omega)
            rw [HL2.out] at hO3
            go_wp2
            go_roundw
            case rel => exact ⟨out.length + 1, g3, c3, by omega, by go_num, by rw [HL2.out], hO3.base HBC.size, bth HBC hW3⟩
            case measure => simp [intOf]; omega
          · obtain rfl : q0 = out.length := by omega
            obtain rfl : cv = out.length := by omega
            have hO12 := hOC
            go_wp2
            haveI : Nonempty (Hld (fun V => Below WC.heap.size WC V)) := ⟨⟨WC, Below.refl _ _⟩⟩
            refine wp_region_mk (ooS WC.heap.size (out.length : Int) out.length out) (fun V => Below WC.heap.size WC V) [([], 0), ([5], 6), ([1, 2, 3], 4)] [8, 9, 10] [([], 7), ([], 11)] [12] (by kernel_rfl) (by kernel_rfl) (Below.refl _ _).drew (fun V V' h k => h.trans (k.mono h.size)) ?_
            intro σ
            have hjl : out.length = out.length := by first | rfl | (rw [List.length_take]; omega)
            have hjm : out.length ≤ 1000 := by omega
            refine wpMk1_cons (some 61) rfl (.slice (some ⟨(σ 0).1, 0, none⟩) 0 0) rfl fun K1 hK1 => ?_
            change wpQuiet _ _ _ _ ([]) _
            refine wpQuiet_nil ?_
            refine ⟨fun k hpar => ?_, hK1 _ ?_⟩
            · change wpList _ _ _ (_ :: []) _ _
              go_wp2
              first | exact Nrm_mk ⟨(_, 0), rfl, bl1 _ _, rfl, k.holds.size, Blk.new _ _ _⟩ | exact Nrm_mk ⟨_, 0, rfl, bl1 _ _, rfl, k.holds.size, Blk.new _ _ _⟩
            simp only [Act.put]
            go_simp
            refine wpMk1_cons (some 67) rfl (.slice (some ⟨(σ 6).1, 0, none⟩) 1 1) rfl fun K1 hK1 => ?_
            change wpQuiet _ _ _ _ (_ :: []) _
            repeat (go_big_quiet_step (fail))
            refine wpQuiet_nil ?_
            refine ⟨fun k hpar => ?_, hK1 _ ?_⟩
            · change wpList _ _ _ (_ :: []) _ _
              go_wp2
              first | exact Nrm_mk ⟨(_, 0), rfl, bl1 _ _, rfl, Blk.new _ _ _⟩ | exact Nrm_mk ⟨_, 0, rfl, bl1 _ _, rfl, Blk.new _ _ _⟩
            simp only [Act.put]
            go_simp
            refine wpMk1_cons (some 65) rfl (.slice (some ⟨(σ 4).1, 0, none⟩) out.length (σ 4).2) rfl fun K1 hK1 => ?_
            change wpQuiet _ _ _ _ (_ :: _ :: _ :: []) _
            repeat (go_big_quiet_step (fail))
            refine wpQuiet_nil ?_
            refine ⟨fun k hpar => ?_, hK1 _ ?_⟩
            · change wpList _ _ _ (_ :: []) _ _
              obtain ⟨U0, U, hU1, ⟨hU2, hU3, hU4⟩, hU5⟩ := hpar 0 (by simp [ooS])
              have hU6 := hU4.below hU5 hU4.lt
              have hUR : Rds 1 intC k.world (some ⟨gv, 0, none⟩) out := by first | exact rds_takeO ((hO12.rds (hf := intC_len)).below k.holds) out.length | exact (hO12.rds (hf := intC_len)).below k.holds
              have HUR := Lib.hid hUR; have HU6 := Lib.hid hU6
              clear hUR hU6 hU4 hU2 hU1 hU5 hpar
              go_wp2_with ((at_builtin; refine wpList_appE rfl _ _ 44 rfl WC.heap.size 3 i0 _ 1 8 Tryd.underlying44 hi hz0 hz1 hz2 rfl (by decide) intC intC_len intC_one (σ 0).1 rfl HU6.out hU3 ⟨gv, 0, none⟩ out.length out (by first | rfl | (rw [hjl]; rfl)) HUR.out (by unfold maxLen; first | omega | (rw [hjl]; omega)) (by first | omega | (rw [hjl]; omega)) ?_; intro g' c' w' hO' hb' hor))
              try rw [hjl] at hO'
              first | exact Nrm_mk ⟨(g', c'), rfl, hb', hor, hO'⟩ | exact Nrm_mk ⟨g', c', rfl, hb', hor, hO'⟩
            simp only [Act.put]
            go_simp
            refine wpMk1_last ?_
            change wpQuiet _ _ _ _ (_ :: _ :: _ :: []) _
            repeat (go_big_quiet_step (fail))
            refine wpQuiet_nil ?_
            intro V0 V W hM hW
            obtain ⟨p6, P6⟩ : (V0 6).heap.size = (σ 6).1 ∧ Blk (V 6) (σ 6).1 3 #[.int .i64 (out.length : Int)] := hM.post 6 (by simp)
            obtain ⟨hor, P4⟩ : ((σ 4).1 = (σ 0).1 ∨ (V0 4).heap.size ≤ (σ 4).1) ∧ OwnV WC.heap.size 3 1 intC (V 4) (.slice (some ⟨(σ 4).1, 0, none⟩) out.length (σ 4).2) out := hM.post 4 (by simp)
            obtain ⟨p00, _, P00⟩ : (V0 0).heap.size = (σ 0).1 ∧ WC.heap.size ≤ (σ 0).1 ∧ Blk (V 0) (σ 0).1 3 #[] := hM.post 0 (by simp)
            have Q4 := P4.later (hM.later 4 (by simp))
            have Q6 : Blk W (σ 6).1 3 #[.int .i64 (out.length : Int)] := P6.below (hM.later 6 (by simp)) P6.lt
            have hne : (σ 6).1 ≠ (σ 4).1 := by
              have a1 := P6.lt
              have a2 : (σ 4).1 < (V 4).heap.size := (P4.lt _ rfl).2
              have a3 := P00.lt
              rcases hor with ho | ho
              · rcases hM.apart 0 (by simp) 6 (by simp) (by decide) with h | h <;> omega
              · rcases hM.apart 4 (by simp) 6 (by simp) (by decide) with h | h <;> omega
            clear hM P6 P4 p6 P00 p00 hor
            generalize (σ 0) = p0 at *
            generalize (σ 6) = p6 at *
            generalize (σ 4) = p4 at *
            obtain ⟨g4, c4⟩ := p4
            obtain ⟨g6, c6⟩ := p6
            simp only at Q4 Q6 hne
            have hR1' : Rds 1 intC W (some ⟨g6, 0, none⟩) [(out.length : Int)] := fun _ => ⟨g6, 0, rfl, Q6.lt, fun i y hy q u hu => by
              have h0 : i = 0 := by have := (List.getElem?_eq_some_iff.1 hy).1; simp at this; omega
              subst h0; simp at hy; subst hy
              rw [Nat.zero_mul, Nat.zero_add]
              exact (Q6.cell q).trans (by simpa [intC] using hu)⟩
            have HR1 := Lib.hid hR1'; have HO1 := Lib.hid Q4
            clear hR1' Q4
            refine wpMix_cons fun K2 hK2 => ?_
            change wpQuiet _ _ _ _ ([]) _
            refine wpQuiet_nil ?_
            change wpList _ _ _ (_ :: []) _ _
            go_wp2_with ((at_builtin; refine wpList_app rfl _ _ 44 rfl WC.heap.size 3 i0 _ 1 8 Tryd.underlying44 hi hz0 hz1 hz2 rfl (by decide) intC intC_len intC_one _ out rfl HO1.out (some ⟨g6, 0, none⟩) 1 [(out.length : Int)] rfl HR1.out (fun h => by cases h) (by unfold maxLen; simp; omega) (by simp; omega) (by have := hW.size; omega) ?_; intro v2 u2 hO2 hg2))
            have hW2 : Below WC.heap.size WC u2 := hW.grown hg2 (by have := hW.size; omega) (fun q hq => (HO1.out.lt q hq).1)
            refine Nrm_intro (hW2) (hK2 _ _ ?_)
            have hRd : Rds 1 intC u2 (some ⟨gv, out.length, none⟩) (out.drop out.length) := by
              have h := rds_dropO ((hO12.rds (hf := intC_len)).below hW2) out.length
              simpa using h
            have HRd := Lib.hid hRd; have HO2 := Lib.hid hO2
            have hdl : (out.drop out.length).length = out.length - out.length := List.length_drop
            clear hRd hO2
            refine wpMix_cons fun K2 hK2 => ?_
            change wpQuiet _ _ _ _ ([]) _
            refine wpQuiet_nil ?_
            change wpList _ _ _ (_ :: []) _ _
            go_wp2_with ((at_builtin; refine wpList_app rfl _ _ 44 rfl WC.heap.size 3 i0 _ 1 8 Tryd.underlying44 hi hz0 hz1 hz2 rfl (by decide) intC intC_len intC_one _ (out ++ [(out.length : Int)]) rfl HO2.out (some _) _ ([] : List Int) rfl Rds.nil (fun h => by cases h) (by unfold maxLen; simp; omega) (by simp; omega) (by have := hW2.size; omega) ?_; intro v3 u3 hO3 hg3))
            have hW3 : Below WC.heap.size WC u3 := hW2.grown hg3 (by have := hW2.size; omega) (fun q hq => (HO2.out.lt q hq).1)
            refine Nrm_intro (hW3) (hK2 _ _ ?_)
            refine wpMix_last ?_
            change wpQuiet _ _ _ _ (_ :: []) _
            repeat (go_big_quiet_step (fail))
            refine wpQuiet_nil ?_
            have e : oo xs (out.length + 1) = out ++ [(out.length : Int)] ++ ([] : List Int) := by rw [HINS.out]; simp
            rw [← e] at hO3
            obtain ⟨g3, c3, rfl, _⟩ := own_some hO3 (by rw [HL2.out]; omega)
            rw [HL2.out] at hO3
            go_wp2
            go_roundw
            case rel => exact ⟨out.length + 1, g3, c3, by omega, by go_num, by rw [HL2.out], hO3.base HBC.size, bth HBC hW3⟩
            case measure => simp [intOf]; omega
      · obtain rfl : k = xs.length := by omega
        go_wp2
        go_ret2
        rw [H2.out, oo_len xs _ (Nat.le_refl _)]
        exact ⟨some ⟨gv, 0, none⟩, cv, rfl, hO, hb⟩
end Go.Proofs.YtbnncgahepcfnaaDoor
