/- Ripe topics: the reference's function. -/
import Derived.Test.YtbnncgahepcfnaaGreatDoorNo11
import Derived.Test.YtbnncgahepcfnaaGreatDoorNo2
import Derived.Test.YtbnncgahepcfnaaGreatDoorNo9
import Derived.Test.YtbnncgahepcfnaaGreatDoorNo12
import Derived.Sort.Walk0
import Derived.Deep.Cut
namespace Go.G9
open Go.RowKit
theorem rds_take {T : Type} {sz : Nat} {f : T → List Value} {w : World} {A : Option Addr} {xs : List T} (h : Rds sz f w A xs) (k : Nat) : Rds sz f w A (xs.take k) := by
  intro h0
  obtain ⟨b, off, h1, h2, h3⟩ := h (by rw [List.length_take] at h0; omega)
  refine ⟨b, off, h1, h2, fun i x hx j u hu => h3 i x ?_ j u hu⟩
  rw [List.getElem?_take] at hx
  split at hx
  · exact hx
  · cases hx
theorem rds_drop {T : Type} {sz : Nat} {f : T → List Value} {w : World} {b off : Nat} {xs : List T} (h : Rds sz f w (some ⟨b, off, none⟩) xs) (k : Nat) : Rds sz f w (some ⟨b, off + k * sz, none⟩) (xs.drop k) := by
  intro h0
  obtain ⟨b', off', h1, h2, h3⟩ := h (by rw [List.length_drop] at h0; omega)
  injection h1 with h1; injection h1 with h4 h5; subst h4; subst h5
  refine ⟨b, off + k * sz, rfl, h2, fun i x hx j u hu => ?_⟩
  rw [List.getElem?_drop] at hx
  have h6 := h3 (k + i) x hx j u hu
  rwa [Nat.add_mul, ← Nat.add_assoc] at h6
theorem less_is (x y : List UInt8) : Op.bytesLess x y = decide (x < y) := Go.Proofs.bytesLess_eq x y
theorem same_is (x y : List UInt8) : (x == y) = decide (x = y) := by
  by_cases h : x = y
  · subst h; simp
  · simp [h]
end Go.G9
namespace Go.Proofs.YtbnncgahepcfnaaGreatDoor
open Go.RowKit Go.G9
def rpS (B : Nat) (l : S8) (n4 : Nat) (ys : List S8) : MkSpec (Nat × Nat) where
  par := fun n => match n with
    | 4 => [0]
    | _ => []
  val := fun n p => match n with
    | 0 => .slice (some ⟨p.1, 0, none⟩) 0 0
    | 10 => .slice (some ⟨p.1, 0, none⟩) 1 1
    | 4 => .slice (some ⟨p.1, 0, none⟩) n4 p.2
    | _ => undef
  post := fun n σ p V0 V => match n with
    | 0 => V0.heap.size = p.1 ∧ B ≤ p.1 ∧ Blk V p.1 9 #[]
    | 10 => V0.heap.size = p.1 ∧ Blk V p.1 9 #[.string ⟨l.toArray⟩]
    | 4 => (p.1 = (σ 0).1 ∨ V0.heap.size ≤ p.1) ∧ OwnV B 9 1 sC V (.slice (some ⟨p.1, 0, none⟩) n4 p.2) ys
    | _ => True
set_option maxHeartbeats 4000000 in
set_option maxRecDepth 100000 in
theorem sRipe_is (A : Option Addr) (c : Nat) (xs : List Ntc) (hn : xs.length ≤ 1048576) (day : Int) (w : World) (hR : Rds 4 Ntc.cells w A xs) :
  Calls Tryz.prog 37 #[.slice A xs.length c, .int .i64 day] w fun e w' => ∃ A c, e = .returned (.tuple #[.slice A (rpL xs day).length c, .bool (rpOk xs day)]) ∧ OwnV w.heap.size 9 1 sC w' (.slice A (rpL xs day).length c) (rpL xs day) ∧ Below w.heap.size w w' := by
  obtain ⟨i0, hi, hz0, hz1, hz2⟩ := info_parts info_str
  have hE0 := OwnV.made (f := sC) (sz := 1) w (Nat.le_refl _) 9
  cases hr : noticesB xs
  · have h1 : rpOk xs day = false := by unfold rpOk; rw [hr]; rfl
    have h2 : rpL xs day = [] := by unfold rpL; rw [h1]; rfl
    rw [h1, h2]
    clear h1 h2
    go_enter Tryz.func37, Tryz.ntmps37
    go_wp2_with fail
    refine (l24Good_is A c xs hn _ hr _ (hR.below (bl1 _ _))).mono ?_
    rintro e w1 ⟨rfl, hb1⟩
    go_wp2
    go_ret2
    exact ⟨some ⟨w.heap.size, 0, none⟩, 0, rfl, hE0.later hb1, bth (bl1 _ _) hb1⟩
  cases hd : inB day 0 3650
  · have h1 : rpOk xs day = false := by unfold rpOk; rw [hr, hd]; rfl
    have h2 : rpL xs day = [] := by unfold rpL; rw [h1]; rfl
    rw [h1, h2]
    clear h1 h2
    go_enter Tryz.func37, Tryz.ntmps37
    go_wp2_with fail
    refine (l24Good_is A c xs hn _ hr _ (hR.below (bl1 _ _))).mono ?_
    rintro e w1 ⟨rfl, hb1⟩
    go_wp2_with fail
    refine (l24Day_is day _ hd _).mono ?_
    rintro e w0 ⟨rfl, h0⟩
    rw [h0]
    clear h0 w0
    go_wp2
    go_ret2
    exact ⟨some ⟨w.heap.size, 0, none⟩, 0, rfl, hE0.later hb1, bth (bl1 _ _) hb1⟩
  · have h1 : rpOk xs day = true := by unfold rpOk; rw [hr, hd]; rfl
    have h2 : rpL xs day = rpIns xs day xs.length := by unfold rpL; rw [h1]; rfl
    have H1 := Lib.hid h1; have H2 := Lib.hid h2; clear h1 h2
    have hl := noticesB_len hr
    have hdb := inB_iff.1 hd
    go_enter Tryz.func37, Tryz.ntmps37
    go_wp2_with fail
    refine (l24Good_is A c xs hn _ hr _ (hR.below (bl1 _ _))).mono ?_
    rintro e w1 ⟨rfl, hb1⟩
    have HB1 : Below w.heap.size w w1 := bth (bl1 _ _) hb1
    have hO1 := hE0.later hb1
    clear hb1 hE0
    go_wp2_with fail
    refine (l24Day_is day _ hd _).mono ?_
    rintro e w0 ⟨rfl, h0⟩
    rw [h0]
    clear h0 w0
    go_wp2
    go_loopw [6, 7, 8] (fun v i _ wr => ∃ m : Nat, m ≤ xs.length ∧ i = .int .i64 m ∧ (∃ g c, v = .slice (some ⟨g, 0, none⟩) (rpIns xs day m).length c) ∧ OwnV w.heap.size 9 1 sC wr v (rpIns xs day m) ∧ Below w.heap.size w wr) (fun _ i _ _ => xs.length - (intOf i).toNat)
    case atStart => exact ⟨0, Nat.zero_le _, rfl, ⟨_, _, rfl⟩, hO1, HB1⟩
    case round =>
      clear hO1 HB1
      obtain ⟨m, hm, rfl, ⟨gv, cv, rfl⟩, hO, hb⟩ := hrel
      by_cases hlt : m < xs.length
      · obtain ⟨b, off, x, rfl, hbl, hx, hcx⟩ := hR.at_ hb hlt
        have hv := noticesB_at hr hx
        obtain ⟨id, s, g, d, hs⟩ := x
        obtain ⟨l, rfl⟩ := str_of s
        obtain ⟨t1, t2, t3, t4, _, _⟩ := noticeB_bdN hv
        have f0 := hcx 0 _ rfl
        have f1 := hcx 1 _ rfl
        have f2 := hcx 2 _ rfl
        have f3 := hcx 3 _ rfl
        simp only [Nat.add_zero] at f0
        have hstep : rpIns xs day (m + 1) = if ripeB day ⟨id, ⟨l.toArray⟩, g, d, hs⟩ then insT l (rpIns xs day m) else rpIns xs day m := by rw [rpIns, hx]; rfl
        have hml := rpIns_len xs day m
        have HX := Lib.hid hx; clear hx hcx hv
        obtain ⟨out, hout⟩ : ∃ out, out = rpIns xs day m := ⟨_, rfl⟩
        rw [← hout] at hstep hO hml
        simp only [← hout]
        have HS := Lib.hid hstep; have HOUT := Lib.hid hout; clear hstep hout
        have hcap : out.length ≤ cv ∧ cv ≤ maxLen := by
          rcases hO.2 with ⟨e0, _⟩ | ⟨g', cap', cur, e0, _, _, h5, h6, _⟩
          · cases e0
          · injection e0 with _ _ e3; subst e3; exact ⟨h5, h6⟩
        unfold maxLen at hcap
        obtain ⟨hcap1, hcap2⟩ := hcap
        by_cases hyn : g + d ≤ day
        · have hp : ripeB day ⟨id, ⟨l.toArray⟩, g, d, hs⟩ = true := decide_eq_true hyn
          have HP := Lib.hid hp; clear hp
          go_wp2
          refine wp_region_kin (by kernel_rfl) (by kernel_rfl) ?_
          repeat (go_big_quiet_step ((fail)))
          refine wpQuiet_nil ?_
          intro K1
          have HA := bth hb K1.below
          have hOA := hO.later K1.below
          clear f0 f1 f2 f3 hb hO
          generalize K1.world = WA at *
          go_wp2
          go_loopw [8] (fun v8 wq => ∃ j : Nat, j ≤ out.length ∧ v8 = .int .i64 j ∧ (∀ i x, i < j → out[i]? = some x → x < l) ∧ Below WA.heap.size WA wq) (fun v8 _ => out.length - (intOf v8).toNat)
          case atStart => exact ⟨0, Nat.zero_le _, rfl, fun i x hi => by omega, Below.refl _ _⟩
          case round =>
            obtain ⟨j, hj, rfl, hlow, hbq⟩ := hrel
            have HLOW := Lib.hid hlow; clear hlow
            have topic : ∀ W, Below w.heap.size w W → ∀ K : Kin W.heap.size W, K.world.cell? ⟨b, off + m * 4 + 1, none⟩ = some (.string ⟨l.toArray⟩) := fun W hW K => by
              obtain ⟨b', off', x', hae, _, hx2, hcx⟩ := hR.at_ hW hlt
              obtain ⟨rfl, rfl⟩ : b = b' ∧ off = off' := by injection hae with hae; injection hae with h1 h2; exact ⟨h1, h2⟩
              rw [HX.out] at hx2
              obtain rfl := Option.some.inj hx2
              exact hcx 1 _ rfl K
            have HT := Lib.hid topic; clear topic
            by_cases hjl : j < out.length
            · have oute : ∀ W, Below WA.heap.size WA W → ∃ y, out[j]? = some y ∧ ∀ K : Kin W.heap.size W, K.world.cell? ⟨gv, j, none⟩ = some (.string ⟨y.toArray⟩) := fun W hW => by
                obtain ⟨b3, off3, y, hae, _, hy, hcy⟩ := (hOA.rds (hf := sC_len)).at_ hW hjl
                injection hae with hae; injection hae with h1 h2; subst h1; subst h2
                refine ⟨y, hy, fun K => ?_⟩
                have := hcy 0 _ rfl K
                simpa using this
              obtain ⟨y, hy, hcy⟩ := oute _ hbq
              have HY := Lib.hid hy; clear hy
              have f1 := HT.out _ (bth HA hbq)
              have hjn1 : ¬ j = out.length := by omega
              have hjn2 : (j == out.length) = false := beq_eq_false_iff_ne.2 hjn1
              have hjn3 : ((j : Int) == (out.length : Int)) = false := beq_eq_false_iff_ne.2 (by omega)
              have hless := less_is y l
              by_cases hyl : y < l
              · rw [decide_eq_true hyl] at hless
                have HYL := Lib.hid hyl; clear hyl
                go_wp2
                refine wp_region_kin (by kernel_rfl) (by kernel_rfl) ?_
                repeat (go_big_quiet_step ((fail)))
                refine wpQuiet_nil ?_
                intro K2
                go_wp2
                go_roundw
                case rel =>
                  refine ⟨j + 1, by omega, by go_num, fun i x hi hx => ?_, bth hbq K2.below⟩
                  by_cases hij : i = j
                  · subst hij; rw [HY.out] at hx; obtain rfl := Option.some.inj hx; exact HYL.out
                  · exact HLOW.out i x (by omega) hx
                case measure => simp [intOf]; omega
              · rw [decide_eq_false hyl] at hless
                have HYL := Lib.hid hyl; clear hyl
                go_wp2
                refine wp_region_kin (by kernel_rfl) (by kernel_rfl) ?_
                repeat (go_big_quiet_step ((fail)))
                refine wpQuiet_nil ?_
                intro K2
                have hbq2 := bth hbq K2.below
                clear f1 hcy hless hbq
                generalize K2.world = WB at *
                have f1 := HT.out _ (bth HA hbq2)
                obtain ⟨y', hy', hcy⟩ := oute _ hbq2
                rw [HY.out] at hy'
                obtain rfl := Option.some.inj hy'
                have hsame := same_is y l
                by_cases hye : y = l
                · rw [decide_eq_true hye] at hsame
                  subst hye
                  have e : rpIns xs day (m + 1) = out := by rw [HS.out, if_pos HP.out]; exact insT_same HLOW.out HY.out
                  have HE := Lib.hid e; clear e
                  go_wp2
                  refine wp_region_kin (by kernel_rfl) (by kernel_rfl) ?_
                  repeat (go_big_quiet_step ((fail)))
                  refine wpQuiet_nil ?_
                  intro K3
                  go_wp2
                  go_roundw
                  case rel => exact ⟨m + 1, by omega, by go_num, ⟨gv, cv, by rw [HE.out]⟩, by rw [HE.out]; exact (hOA.later hbq2).later K3.below, bth HA (bth hbq2 K3.below)⟩
                  case measure => simp [intOf]; omega
                · rw [decide_eq_false hye] at hsame
                  have HINS := Lib.hid (insT_mid HLOW.out HY.out HYL.out hye)
                  clear hye
                  go_wp2
                  refine wp_region_kin (by kernel_rfl) (by kernel_rfl) ?_
                  repeat (go_big_quiet_step ((fail)))
                  refine wpQuiet_nil ?_
                  intro K3
                  have hbq3 := bth hbq2 K3.below
                  clear f1 hcy hsame hbq2
                  generalize K3.world = WC at *
                  have hOC := hOA.later hbq3
                  have HBC := bth HA hbq3
                  go_wp2
                  have hO12 := hOC
                  have hR12 := (hR.below HBC)
                  have h12 : Below WC.heap.size WC WC := Below.refl _ _
                  have hR13 := hR.below HBC
                  haveI : Nonempty (Hld (fun V => Below WC.heap.size WC V)) := ⟨⟨WC, Below.refl _ _⟩⟩
                  have f1 : ∀ K : Hld (fun V => Below WC.heap.size WC V), K.world.cell? ⟨b, off + m * 4 + 1, none⟩ = some (.string ⟨l.toArray⟩) := fun K => by
                    obtain ⟨b', off', x', hae, _, hx2, hcx⟩ := hR13.at_ K.holds hlt
                    obtain ⟨rfl, rfl⟩ : b = b' ∧ off = off' := by injection hae with hae; injection hae with h1 h2; exact ⟨h1, h2⟩
                    rw [HX.out] at hx2
                    obtain rfl := Option.some.inj hx2
                    exact hcx 1 _ rfl (Kin.self _)
                  refine wp_region_mk (rpS WC.heap.size l j (out.take j)) (fun V => Below WC.heap.size WC V) [([], 0), ([5, 6, 7, 8, 9], 10), ([1, 2, 3], 4)] [12, 13, 14] [([], 11), ([], 15)] [16] (by kernel_rfl) (by kernel_rfl) (Below.refl _ _).drew (fun V V' h k => h.trans (k.mono h.size)) ?_
                  intro σ
                  have hjl : (out.take j).length = j := by first | rfl | (rw [List.length_take]; omega)
                  have hjm : j ≤ 1000 := by omega
                  refine wpMk1_cons (some 72) rfl (.slice (some ⟨(σ 0).1, 0, none⟩) 0 0) rfl fun K1 hK1 => ?_
                  change wpQuiet _ _ _ _ ([]) _
                  refine wpQuiet_nil ?_
                  refine ⟨fun k hpar => ?_, hK1 _ ?_⟩
                  · change wpList _ _ _ (_ :: []) _ _
                    go_wp2
                    first | exact Nrm_mk ⟨(_, 0), rfl, bl1 _ _, rfl, k.holds.size, Blk.new _ _ _⟩ | exact Nrm_mk ⟨_, 0, rfl, bl1 _ _, rfl, k.holds.size, Blk.new _ _ _⟩
                  simp only [Act.put]
                  go_simp
                  refine wpMk1_cons (some 82) rfl (.slice (some ⟨(σ 10).1, 0, none⟩) 1 1) rfl fun K1 hK1 => ?_
                  change wpQuiet _ _ _ _ (_ :: _ :: _ :: _ :: _ :: []) _
                  repeat (go_big_quiet_step (fail))
                  refine wpQuiet_nil ?_
                  refine ⟨fun k hpar => ?_, hK1 _ ?_⟩
                  · change wpList _ _ _ (_ :: []) _ _
                    go_wp2
                    first | exact Nrm_mk ⟨(_, 0), rfl, bl1 _ _, rfl, Blk.new _ _ _⟩ | exact Nrm_mk ⟨_, 0, rfl, bl1 _ _, rfl, Blk.new _ _ _⟩
                  simp only [Act.put]
                  go_simp
                  clear f1
                  refine wpMk1_cons (some 76) rfl (.slice (some ⟨(σ 4).1, 0, none⟩) j (σ 4).2) rfl fun K1 hK1 => ?_
                  change wpQuiet _ _ _ _ (_ :: _ :: _ :: []) _
                  repeat (go_big_quiet_step (fail))
                  refine wpQuiet_nil ?_
                  refine ⟨fun k hpar => ?_, hK1 _ ?_⟩
                  · change wpList _ _ _ (_ :: []) _ _
                    obtain ⟨U0, U, hU1, ⟨hU2, hU3, hU4⟩, hU5⟩ := hpar 0 (by simp [rpS])
                    have hU6 := hU4.below hU5 hU4.lt
                    have hUR : Rds 1 sC k.world (some ⟨gv, 0, none⟩) (out.take j) := by first | exact rds_take ((hO12.rds (hf := sC_len)).below k.holds) j | exact (hO12.rds (hf := sC_len)).below k.holds
                    have HUR := Lib.hid hUR; have HU6 := Lib.hid hU6
                    clear hUR hU6 hU4 hU2 hU1 hU5 hpar
                    go_wp2_with ((at_builtin; refine wpList_appE rfl _ _ 51 rfl WC.heap.size 9 i0 _ 1 16 Tryz.underlying51 hi hz0 hz1 hz2 rfl (by decide) sC sC_len sC_one (σ 0).1 rfl HU6.out hU3 ⟨gv, 0, none⟩ cv (out.take j) (by first | rfl | (rw [hjl]; rfl)) HUR.out (by unfold maxLen; first | omega | (rw [hjl]; omega)) (by first | omega | (rw [hjl]; omega)) ?_; intro g' c' w' hO' hb' hor))
                    try rw [hjl] at hO'
                    first | exact Nrm_mk ⟨(g', c'), rfl, hb', hor, hO'⟩ | exact Nrm_mk ⟨g', c', rfl, hb', hor, hO'⟩
                  simp only [Act.put]
                  go_simp
                  refine wpMk1_last ?_
                  change wpQuiet _ _ _ _ (_ :: _ :: _ :: []) _
                  repeat (go_big_quiet_step (fail))
                  refine wpQuiet_nil ?_
                  intro V0 V W hM hW
                  obtain ⟨p10, P10⟩ : (V0 10).heap.size = (σ 10).1 ∧ Blk (V 10) (σ 10).1 9 #[.string ⟨l.toArray⟩] := hM.post 10 (by simp)
                  obtain ⟨hor, P4⟩ : ((σ 4).1 = (σ 0).1 ∨ (V0 4).heap.size ≤ (σ 4).1) ∧ OwnV WC.heap.size 9 1 sC (V 4) (.slice (some ⟨(σ 4).1, 0, none⟩) j (σ 4).2) (out.take j) := hM.post 4 (by simp)
                  obtain ⟨p00, _, P00⟩ : (V0 0).heap.size = (σ 0).1 ∧ WC.heap.size ≤ (σ 0).1 ∧ Blk (V 0) (σ 0).1 9 #[] := hM.post 0 (by simp)
                  have Q4 := P4.later (hM.later 4 (by simp))
                  have Q10 : Blk W (σ 10).1 9 #[.string ⟨l.toArray⟩] := P10.below (hM.later 10 (by simp)) P10.lt
                  have hne : (σ 10).1 ≠ (σ 4).1 := by
                    have a1 := P10.lt
                    have a2 : (σ 4).1 < (V 4).heap.size := (P4.lt _ rfl).2
                    have a3 := P00.lt
                    rcases hor with ho | ho
                    · rcases hM.apart 0 (by simp) 10 (by simp) (by decide) with h | h <;> omega
                    · rcases hM.apart 4 (by simp) 10 (by simp) (by decide) with h | h <;> omega
                  clear hM P10 P4 p10 P00 p00 hor
                  generalize (σ 0) = p0 at *
                  generalize (σ 10) = p10 at *
                  generalize (σ 4) = p4 at *
                  obtain ⟨g4, c4⟩ := p4
                  obtain ⟨g10, c10⟩ := p10
                  simp only at Q4 Q10 hne
                  have hR1' : Rds 1 sC W (some ⟨g10, 0, none⟩) [l] := fun _ => ⟨g10, 0, rfl, Q10.lt, fun i y hy q u hu => by
                    have h0 : i = 0 := by have := (List.getElem?_eq_some_iff.1 hy).1; simp at this; omega
                    subst h0; simp at hy; subst hy
                    rw [Nat.zero_mul, Nat.zero_add]
                    exact (Q10.cell q).trans (by simpa [sC] using hu)⟩
                  have HR1 := Lib.hid hR1'; have HO1 := Lib.hid Q4
                  clear hR1' Q4
                  refine wpMix_cons fun K2 hK2 => ?_
                  change wpQuiet _ _ _ _ ([]) _
                  refine wpQuiet_nil ?_
                  change wpList _ _ _ (_ :: []) _ _
                  go_wp2_with ((at_builtin; refine wpList_app rfl _ _ 51 rfl WC.heap.size 9 i0 _ 1 16 Tryz.underlying51 hi hz0 hz1 hz2 rfl (by decide) sC sC_len sC_one _ (out.take j) rfl HO1.out (some ⟨g10, 0, none⟩) 1 [l] rfl HR1.out (fun h => by cases h) (by unfold maxLen; simp; omega) (by simp; omega) (by have := hW.size; omega) ?_; intro v2 u2 hO2 hg2))
                  have hW2 : Below WC.heap.size WC u2 := hW.grown hg2 (by have := hW.size; omega) (fun q hq => (HO1.out.lt q hq).1)
                  refine Nrm_intro (hW2) (hK2 _ _ ?_)
                  have hRd : Rds 1 sC u2 (some ⟨gv, j, none⟩) (out.drop j) := by
                    have h := rds_drop ((hO12.rds (hf := sC_len)).below hW2) j
                    simpa using h
                  have HRd := Lib.hid hRd; have HO2 := Lib.hid hO2
                  have hdl : (out.drop j).length = out.length - j := List.length_drop
                  clear hRd hO2
                  refine wpMix_cons fun K2 hK2 => ?_
                  change wpQuiet _ _ _ _ ([]) _
                  refine wpQuiet_nil ?_
                  change wpList _ _ _ (_ :: []) _ _
                  go_wp2_with ((at_builtin; refine wpList_app rfl _ _ 51 rfl WC.heap.size 9 i0 _ 1 16 Tryz.underlying51 hi hz0 hz1 hz2 rfl (by decide) sC sC_len sC_one _ (out.take j ++ [l]) rfl HO2.out (some ⟨gv, j, none⟩) (cv - j) (out.drop j) (by rw [hdl]; rfl) HRd.out (fun h => by cases h) (by unfold maxLen; simp; omega) (by simp; omega) (by have := hW2.size; omega) ?_; intro v3 u3 hO3 hg3))
                  have hW3 : Below WC.heap.size WC u3 := hW2.grown hg3 (by have := hW2.size; omega) (fun q hq => (HO2.out.lt q hq).1)
                  refine Nrm_intro (hW3) (hK2 _ _ ?_)
                  refine wpMix_last ?_
                  change wpQuiet _ _ _ _ (_ :: []) _
                  repeat (go_big_quiet_step (fail))
                  refine wpQuiet_nil ?_
                  have e : rpIns xs day (m + 1) = out.take j ++ [l] ++ out.drop j := by rw [HS.out, if_pos HP.out, HINS.out]; simp
                  obtain ⟨g3, c3, _, rfl, _⟩ := hO3.whole sC_len (by simp <;> omega)
                  go_wp2
                  go_roundw
                  case rel => exact ⟨m + 1, by omega, by go_num, ⟨g3, c3, by rw [e]⟩, by rw [e]; exact hO3.base (HBC).size, bth (HBC) hW3⟩
                  case measure => simp [intOf]; omega
            · obtain rfl : j = out.length := by omega
              have f1 := HT.out _ (bth HA hbq)
              go_wp2
              refine wp_region_kin (by kernel_rfl) (by kernel_rfl) ?_
              repeat (go_big_quiet_step ((fail)))
              refine wpQuiet_nil ?_
              intro K2
              have hbq2 := bth hbq K2.below
              clear f1 hbq
              generalize K2.world = WB at *
              have f1 := HT.out _ (bth HA hbq2)
              go_wp2
              refine wp_region_kin (by kernel_rfl) (by kernel_rfl) ?_
              repeat (go_big_quiet_step ((fail)))
              refine wpQuiet_nil ?_
              intro K3
              have hbq3 := bth hbq2 K3.below
              clear f1 hbq2
              generalize K3.world = WC at *
              have hOC := hOA.later hbq3
              have HBC := bth HA hbq3
              have hins : insT l out = out.take out.length ++ l :: out.drop out.length := by
                rw [insT_end (fun i x hi hx => HLOW.out i x hi hx)]; simp
              have HINS := Lib.hid hins; clear hins
              go_wp2
              rcases Nat.lt_or_ge out.length cv with hcc | hcc
              · have hcc' : out.length < cv := hcc
                have hO12 := hOC
                have hR12 := (hR.below HBC)
                have h12 : Below WC.heap.size WC WC := Below.refl _ _
                have hR13 := hR.below HBC
                haveI : Nonempty (Hld (fun V => Below WC.heap.size WC V)) := ⟨⟨WC, Below.refl _ _⟩⟩
                have f1 : ∀ K : Hld (fun V => Below WC.heap.size WC V), K.world.cell? ⟨b, off + m * 4 + 1, none⟩ = some (.string ⟨l.toArray⟩) := fun K => by
                  obtain ⟨b', off', x', hae, _, hx2, hcx⟩ := hR13.at_ K.holds hlt
                  obtain ⟨rfl, rfl⟩ : b = b' ∧ off = off' := by injection hae with hae; injection hae with h1 h2; exact ⟨h1, h2⟩
                  rw [HX.out] at hx2
                  obtain rfl := Option.some.inj hx2
                  exact hcx 1 _ rfl (Kin.self _)
                refine wp_region_mk (rpS WC.heap.size l out.length out) (fun V => Below WC.heap.size WC V) [([], 0), ([5, 6, 7, 8, 9], 10), ([1, 2, 3], 4)] [12, 13, 14] [([], 11), ([], 15)] [16] (by kernel_rfl) (by kernel_rfl) (Below.refl _ _).drew (fun V V' h k => h.trans (k.mono h.size)) ?_
                intro σ
                have hjl : out.length = out.length := by first | rfl | (rw [List.length_take]; omega)
                have hjm : out.length ≤ 1000 := by omega
                refine wpMk1_cons (some 72) rfl (.slice (some ⟨(σ 0).1, 0, none⟩) 0 0) rfl fun K1 hK1 => ?_
                change wpQuiet _ _ _ _ ([]) _
                refine wpQuiet_nil ?_
                refine ⟨fun k hpar => ?_, hK1 _ ?_⟩
                · change wpList _ _ _ (_ :: []) _ _
                  go_wp2
                  first | exact Nrm_mk ⟨(_, 0), rfl, bl1 _ _, rfl, k.holds.size, Blk.new _ _ _⟩ | exact Nrm_mk ⟨_, 0, rfl, bl1 _ _, rfl, k.holds.size, Blk.new _ _ _⟩
                simp only [Act.put]
                go_simp
                refine wpMk1_cons (some 82) rfl (.slice (some ⟨(σ 10).1, 0, none⟩) 1 1) rfl fun K1 hK1 => ?_
                change wpQuiet _ _ _ _ (_ :: _ :: _ :: _ :: _ :: []) _
                repeat (go_big_quiet_step (fail))
                refine wpQuiet_nil ?_
                refine ⟨fun k hpar => ?_, hK1 _ ?_⟩
                · change wpList _ _ _ (_ :: []) _ _
                  go_wp2
                  first | exact Nrm_mk ⟨(_, 0), rfl, bl1 _ _, rfl, Blk.new _ _ _⟩ | exact Nrm_mk ⟨_, 0, rfl, bl1 _ _, rfl, Blk.new _ _ _⟩
                simp only [Act.put]
                go_simp
                clear f1
                refine wpMk1_cons (some 76) rfl (.slice (some ⟨(σ 4).1, 0, none⟩) out.length (σ 4).2) rfl fun K1 hK1 => ?_
                change wpQuiet _ _ _ _ (_ :: _ :: _ :: []) _
                repeat (go_big_quiet_step (fail))
                refine wpQuiet_nil ?_
                refine ⟨fun k hpar => ?_, hK1 _ ?_⟩
                · change wpList _ _ _ (_ :: []) _ _
                  obtain ⟨U0, U, hU1, ⟨hU2, hU3, hU4⟩, hU5⟩ := hpar 0 (by simp [rpS])
                  have hU6 := hU4.below hU5 hU4.lt
                  have hUR : Rds 1 sC k.world (some ⟨gv, 0, none⟩) out := by first | exact rds_take ((hO12.rds (hf := sC_len)).below k.holds) out.length | exact (hO12.rds (hf := sC_len)).below k.holds
                  have HUR := Lib.hid hUR; have HU6 := Lib.hid hU6
                  clear hUR hU6 hU4 hU2 hU1 hU5 hpar
                  go_wp2_with ((at_builtin; refine wpList_appE rfl _ _ 51 rfl WC.heap.size 9 i0 _ 1 16 Tryz.underlying51 hi hz0 hz1 hz2 rfl (by decide) sC sC_len sC_one (σ 0).1 rfl HU6.out hU3 ⟨gv, 0, none⟩ cv out (by first | rfl | (rw [hjl]; rfl)) HUR.out (by unfold maxLen; first | omega | (rw [hjl]; omega)) (by first | omega | (rw [hjl]; omega)) ?_; intro g' c' w' hO' hb' hor))
                  try rw [hjl] at hO'
                  first | exact Nrm_mk ⟨(g', c'), rfl, hb', hor, hO'⟩ | exact Nrm_mk ⟨g', c', rfl, hb', hor, hO'⟩
                simp only [Act.put]
                go_simp
                refine wpMk1_last ?_
                change wpQuiet _ _ _ _ (_ :: _ :: _ :: []) _
                repeat (go_big_quiet_step (fail))
                refine wpQuiet_nil ?_
                intro V0 V W hM hW
                obtain ⟨p10, P10⟩ : (V0 10).heap.size = (σ 10).1 ∧ Blk (V 10) (σ 10).1 9 #[.string ⟨l.toArray⟩] := hM.post 10 (by simp)
                obtain ⟨hor, P4⟩ : ((σ 4).1 = (σ 0).1 ∨ (V0 4).heap.size ≤ (σ 4).1) ∧ OwnV WC.heap.size 9 1 sC (V 4) (.slice (some ⟨(σ 4).1, 0, none⟩) out.length (σ 4).2) out := hM.post 4 (by simp)
                obtain ⟨p00, _, P00⟩ : (V0 0).heap.size = (σ 0).1 ∧ WC.heap.size ≤ (σ 0).1 ∧ Blk (V 0) (σ 0).1 9 #[] := hM.post 0 (by simp)
                have Q4 := P4.later (hM.later 4 (by simp))
                have Q10 : Blk W (σ 10).1 9 #[.string ⟨l.toArray⟩] := P10.below (hM.later 10 (by simp)) P10.lt
                have hne : (σ 10).1 ≠ (σ 4).1 := by
                  have a1 := P10.lt
                  have a2 : (σ 4).1 < (V 4).heap.size := (P4.lt _ rfl).2
                  have a3 := P00.lt
                  rcases hor with ho | ho
                  · rcases hM.apart 0 (by simp) 10 (by simp) (by decide) with h | h <;> omega
                  · rcases hM.apart 4 (by simp) 10 (by simp) (by decide) with h | h <;> omega
                clear hM P10 P4 p10 P00 p00 hor
                generalize (σ 0) = p0 at *
                generalize (σ 10) = p10 at *
                generalize (σ 4) = p4 at *
                obtain ⟨g4, c4⟩ := p4
                obtain ⟨g10, c10⟩ := p10
                simp only at Q4 Q10 hne
                have hR1' : Rds 1 sC W (some ⟨g10, 0, none⟩) [l] := fun _ => ⟨g10, 0, rfl, Q10.lt, fun i y hy q u hu => by
                  have h0 : i = 0 := by have := (List.getElem?_eq_some_iff.1 hy).1; simp at this; omega
                  subst h0; simp at hy; subst hy
                  rw [Nat.zero_mul, Nat.zero_add]
                  exact (Q10.cell q).trans (by simpa [sC] using hu)⟩
                have HR1 := Lib.hid hR1'; have HO1 := Lib.hid Q4
                clear hR1' Q4
                refine wpMix_cons fun K2 hK2 => ?_
                change wpQuiet _ _ _ _ ([]) _
                refine wpQuiet_nil ?_
                change wpList _ _ _ (_ :: []) _ _
                go_wp2_with ((at_builtin; refine wpList_app rfl _ _ 51 rfl WC.heap.size 9 i0 _ 1 16 Tryz.underlying51 hi hz0 hz1 hz2 rfl (by decide) sC sC_len sC_one _ out rfl HO1.out (some ⟨g10, 0, none⟩) 1 [l] rfl HR1.out (fun h => by cases h) (by unfold maxLen; simp; omega) (by simp; omega) (by have := hW.size; omega) ?_; intro v2 u2 hO2 hg2))
                have hW2 : Below WC.heap.size WC u2 := hW.grown hg2 (by have := hW.size; omega) (fun q hq => (HO1.out.lt q hq).1)
                refine Nrm_intro (hW2) (hK2 _ _ ?_)
                have hRd : Rds 1 sC u2 (some ⟨gv, out.length, none⟩) (out.drop out.length) := by
                  have h := rds_drop ((hO12.rds (hf := sC_len)).below hW2) out.length
                  simpa using h
                have HRd := Lib.hid hRd; have HO2 := Lib.hid hO2
                have hdl : (out.drop out.length).length = out.length - out.length := List.length_drop
                clear hRd hO2
                refine wpMix_cons fun K2 hK2 => ?_
                change wpQuiet _ _ _ _ ([]) _
                refine wpQuiet_nil ?_
                change wpList _ _ _ (_ :: []) _ _
                go_wp2_with ((at_builtin; refine wpList_app rfl _ _ 51 rfl WC.heap.size 9 i0 _ 1 16 Tryz.underlying51 hi hz0 hz1 hz2 rfl (by decide) sC sC_len sC_one _ (out ++ [l]) rfl HO2.out (some ⟨gv, out.length, none⟩) (cv - out.length) ([] : List S8) rfl Rds.nil (fun h => by cases h) (by unfold maxLen; simp; omega) (by simp; omega) (by have := hW2.size; omega) ?_; intro v3 u3 hO3 hg3))
                have hW3 : Below WC.heap.size WC u3 := hW2.grown hg3 (by have := hW2.size; omega) (fun q hq => (HO2.out.lt q hq).1)
                refine Nrm_intro (hW3) (hK2 _ _ ?_)
                refine wpMix_last ?_
                change wpQuiet _ _ _ _ (_ :: []) _
                repeat (go_big_quiet_step (fail))
                refine wpQuiet_nil ?_
                have e : rpIns xs day (m + 1) = out ++ [l] ++ ([] : List S8) := by rw [HS.out, if_pos HP.out, HINS.out]; simp
                obtain ⟨g3, c3, _, rfl, _⟩ := hO3.whole sC_len (by simp <;> omega)
                go_wp2
                go_roundw
                case rel => exact ⟨m + 1, by omega, by go_num, ⟨g3, c3, by rw [e]⟩, by rw [e]; exact hO3.base (HBC).size, bth (HBC) hW3⟩
                case measure => simp [intOf]; omega
              · obtain rfl : cv = out.length := by omega
                have hO12 := hOC
                have hR12 := (hR.below HBC)
                have h12 : Below WC.heap.size WC WC := Below.refl _ _
                have hR13 := hR.below HBC
                haveI : Nonempty (Hld (fun V => Below WC.heap.size WC V)) := ⟨⟨WC, Below.refl _ _⟩⟩
                have f1 : ∀ K : Hld (fun V => Below WC.heap.size WC V), K.world.cell? ⟨b, off + m * 4 + 1, none⟩ = some (.string ⟨l.toArray⟩) := fun K => by
                  obtain ⟨b', off', x', hae, _, hx2, hcx⟩ := hR13.at_ K.holds hlt
                  obtain ⟨rfl, rfl⟩ : b = b' ∧ off = off' := by injection hae with hae; injection hae with h1 h2; exact ⟨h1, h2⟩
                  rw [HX.out] at hx2
                  obtain rfl := Option.some.inj hx2
                  exact hcx 1 _ rfl (Kin.self _)
                refine wp_region_mk (rpS WC.heap.size l out.length out) (fun V => Below WC.heap.size WC V) [([], 0), ([5, 6, 7, 8, 9], 10), ([1, 2, 3], 4)] [12, 13, 14] [([], 11), ([], 15)] [16] (by kernel_rfl) (by kernel_rfl) (Below.refl _ _).drew (fun V V' h k => h.trans (k.mono h.size)) ?_
                intro σ
                have hjl : out.length = out.length := by first | rfl | (rw [List.length_take]; omega)
                have hjm : out.length ≤ 1000 := by omega
                refine wpMk1_cons (some 72) rfl (.slice (some ⟨(σ 0).1, 0, none⟩) 0 0) rfl fun K1 hK1 => ?_
                change wpQuiet _ _ _ _ ([]) _
                refine wpQuiet_nil ?_
                refine ⟨fun k hpar => ?_, hK1 _ ?_⟩
                · change wpList _ _ _ (_ :: []) _ _
                  go_wp2
                  first | exact Nrm_mk ⟨(_, 0), rfl, bl1 _ _, rfl, k.holds.size, Blk.new _ _ _⟩ | exact Nrm_mk ⟨_, 0, rfl, bl1 _ _, rfl, k.holds.size, Blk.new _ _ _⟩
                simp only [Act.put]
                go_simp
                refine wpMk1_cons (some 82) rfl (.slice (some ⟨(σ 10).1, 0, none⟩) 1 1) rfl fun K1 hK1 => ?_
                change wpQuiet _ _ _ _ (_ :: _ :: _ :: _ :: _ :: []) _
                repeat (go_big_quiet_step (fail))
                refine wpQuiet_nil ?_
                refine ⟨fun k hpar => ?_, hK1 _ ?_⟩
                · change wpList _ _ _ (_ :: []) _ _
                  go_wp2
                  first | exact Nrm_mk ⟨(_, 0), rfl, bl1 _ _, rfl, Blk.new _ _ _⟩ | exact Nrm_mk ⟨_, 0, rfl, bl1 _ _, rfl, Blk.new _ _ _⟩
                simp only [Act.put]
                go_simp
                clear f1
                refine wpMk1_cons (some 76) rfl (.slice (some ⟨(σ 4).1, 0, none⟩) out.length (σ 4).2) rfl fun K1 hK1 => ?_
                change wpQuiet _ _ _ _ (_ :: _ :: _ :: []) _
                repeat (go_big_quiet_step (fail))
                refine wpQuiet_nil ?_
                refine ⟨fun k hpar => ?_, hK1 _ ?_⟩
                · change wpList _ _ _ (_ :: []) _ _
                  obtain ⟨U0, U, hU1, ⟨hU2, hU3, hU4⟩, hU5⟩ := hpar 0 (by simp [rpS])
                  have hU6 := hU4.below hU5 hU4.lt
                  have hUR : Rds 1 sC k.world (some ⟨gv, 0, none⟩) out := by first | exact rds_take ((hO12.rds (hf := sC_len)).below k.holds) out.length | exact (hO12.rds (hf := sC_len)).below k.holds
                  have HUR := Lib.hid hUR; have HU6 := Lib.hid hU6
                  clear hUR hU6 hU4 hU2 hU1 hU5 hpar
                  go_wp2_with ((at_builtin; refine wpList_appE rfl _ _ 51 rfl WC.heap.size 9 i0 _ 1 16 Tryz.underlying51 hi hz0 hz1 hz2 rfl (by decide) sC sC_len sC_one (σ 0).1 rfl HU6.out hU3 ⟨gv, 0, none⟩ out.length out (by first | rfl | (rw [hjl]; rfl)) HUR.out (by unfold maxLen; first | omega | (rw [hjl]; omega)) (by first | omega | (rw [hjl]; omega)) ?_; intro g' c' w' hO' hb' hor))
                  try rw [hjl] at hO'
                  first | exact Nrm_mk ⟨(g', c'), rfl, hb', hor, hO'⟩ | exact Nrm_mk ⟨g', c', rfl, hb', hor, hO'⟩
                simp only [Act.put]
                go_simp
                refine wpMk1_last ?_
                change wpQuiet _ _ _ _ (_ :: _ :: _ :: []) _
                repeat (go_big_quiet_step (fail))
                refine wpQuiet_nil ?_
                intro V0 V W hM hW
                obtain ⟨p10, P10⟩ : (V0 10).heap.size = (σ 10).1 ∧ Blk (V 10) (σ 10).1 9 #[.string ⟨l.toArray⟩] := hM.post 10 (by simp)
                obtain ⟨hor, P4⟩ : ((σ 4).1 = (σ 0).1 ∨ (V0 4).heap.size ≤ (σ 4).1) ∧ OwnV WC.heap.size 9 1 sC (V 4) (.slice (some ⟨(σ 4).1, 0, none⟩) out.length (σ 4).2) out := hM.post 4 (by simp)
                obtain ⟨p00, _, P00⟩ : (V0 0).heap.size = (σ 0).1 ∧ WC.heap.size ≤ (σ 0).1 ∧ Blk (V 0) (σ 0).1 9 #[] := hM.post 0 (by simp)
                have Q4 := P4.later (hM.later 4 (by simp))
                have Q10 : Blk W (σ 10).1 9 #[.string ⟨l.toArray⟩] := P10.below (hM.later 10 (by simp)) P10.lt
                have hne : (σ 10).1 ≠ (σ 4).1 := by
                  have a1 := P10.lt
                  have a2 : (σ 4).1 < (V 4).heap.size := (P4.lt _ rfl).2
                  have a3 := P00.lt
                  rcases hor with ho | ho
                  · rcases hM.apart 0 (by simp) 10 (by simp) (by decide) with h | h <;> omega
                  · rcases hM.apart 4 (by simp) 10 (by simp) (by decide) with h | h <;> omega
                clear hM P10 P4 p10 P00 p00 hor
                generalize (σ 0) = p0 at *
                generalize (σ 10) = p10 at *
                generalize (σ 4) = p4 at *
                obtain ⟨g4, c4⟩ := p4
                obtain ⟨g10, c10⟩ := p10
                simp only at Q4 Q10 hne
                have hR1' : Rds 1 sC W (some ⟨g10, 0, none⟩) [l] := fun _ => ⟨g10, 0, rfl, Q10.lt, fun i y hy q u hu => by
                  have h0 : i = 0 := by have := (List.getElem?_eq_some_iff.1 hy).1; simp at this; omega
                  subst h0; simp at hy; subst hy
                  rw [Nat.zero_mul, Nat.zero_add]
                  exact (Q10.cell q).trans (by simpa [sC] using hu)⟩
                have HR1 := Lib.hid hR1'; have HO1 := Lib.hid Q4
                clear hR1' Q4
                refine wpMix_cons fun K2 hK2 => ?_
                change wpQuiet _ _ _ _ ([]) _
                refine wpQuiet_nil ?_
                change wpList _ _ _ (_ :: []) _ _
                go_wp2_with ((at_builtin; refine wpList_app rfl _ _ 51 rfl WC.heap.size 9 i0 _ 1 16 Tryz.underlying51 hi hz0 hz1 hz2 rfl (by decide) sC sC_len sC_one _ out rfl HO1.out (some ⟨g10, 0, none⟩) 1 [l] rfl HR1.out (fun h => by cases h) (by unfold maxLen; simp; omega) (by simp; omega) (by have := hW.size; omega) ?_; intro v2 u2 hO2 hg2))
                have hW2 : Below WC.heap.size WC u2 := hW.grown hg2 (by have := hW.size; omega) (fun q hq => (HO1.out.lt q hq).1)
                refine Nrm_intro (hW2) (hK2 _ _ ?_)
                have hRd : Rds 1 sC u2 (some ⟨gv, out.length, none⟩) (out.drop out.length) := by
                  have h := rds_drop ((hO12.rds (hf := sC_len)).below hW2) out.length
                  simpa using h
                have HRd := Lib.hid hRd; have HO2 := Lib.hid hO2
                have hdl : (out.drop out.length).length = out.length - out.length := List.length_drop
                clear hRd hO2
                refine wpMix_cons fun K2 hK2 => ?_
                change wpQuiet _ _ _ _ ([]) _
                refine wpQuiet_nil ?_
                change wpList _ _ _ (_ :: []) _ _
                go_wp2_with ((at_builtin; refine wpList_app rfl _ _ 51 rfl WC.heap.size 9 i0 _ 1 16 Tryz.underlying51 hi hz0 hz1 hz2 rfl (by decide) sC sC_len sC_one _ (out ++ [l]) rfl HO2.out (some _) _ ([] : List S8) rfl Rds.nil (fun h => by cases h) (by unfold maxLen; simp; omega) (by simp; omega) (by have := hW2.size; omega) ?_; intro v3 u3 hO3 hg3))
                have hW3 : Below WC.heap.size WC u3 := hW2.grown hg3 (by have := hW2.size; omega) (fun q hq => (HO2.out.lt q hq).1)
                refine Nrm_intro (hW3) (hK2 _ _ ?_)
                refine wpMix_last ?_
                change wpQuiet _ _ _ _ (_ :: []) _
                repeat (go_big_quiet_step (fail))
                refine wpQuiet_nil ?_
                have e : rpIns xs day (m + 1) = out ++ [l] ++ ([] : List S8) := by rw [HS.out, if_pos HP.out, HINS.out]; simp
                obtain ⟨g3, c3, _, rfl, _⟩ := hO3.whole sC_len (by simp <;> omega)
                go_wp2
                go_roundw
                case rel => exact ⟨m + 1, by omega, by go_num, ⟨g3, c3, by rw [e]⟩, by rw [e]; exact hO3.base (HBC).size, bth (HBC) hW3⟩
                case measure => simp [intOf]; omega
        · have hp : ripeB day ⟨id, ⟨l.toArray⟩, g, d, hs⟩ = false := decide_eq_false hyn
          have HP := Lib.hid hp; clear hp
          go_wp2
          refine wp_region_kin (by kernel_rfl) (by kernel_rfl) ?_
          repeat (go_big_quiet_step ((fail)))
          refine wpQuiet_nil ?_
          intro K
          go_wp2
          go_roundw
          case rel =>
            have e : rpIns xs day (m + 1) = out := by rw [HS.out, HP.out]; rfl
            exact ⟨m + 1, by omega, by go_num, ⟨gv, cv, by rw [e]⟩, by rw [e]; exact hO.later K.below, bth hb K.below⟩
          case measure => simp [intOf]; omega
      · obtain rfl : m = xs.length := by omega
        go_wp2
        go_ret2
        rw [H2.out, H1.out]
        exact ⟨some ⟨gv, 0, none⟩, cv, rfl, hO, hb⟩
end Go.Proofs.YtbnncgahepcfnaaGreatDoor
