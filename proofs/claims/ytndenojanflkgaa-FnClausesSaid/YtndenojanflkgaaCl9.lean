/- Clauses: which stand, fall, and what they say (the program). -/
import Derived.Test.YtndenojanflkgaaCl8
import Derived.Test.YtndenojanflkgaaCl2
import Derived.Test.YtndenojanflkgaaCl6
import Derived.Outline
namespace Go.Proofs.Ytndenojanflkgaa
open Go.RowKit Go.G9
theorem notBlkC {T : Type} {B sz : Nat} {f : T → List Value} {e t : TypeId} {w : World} {v : Value} {p : Nat} {xs : List T} {cs : Array Value} (h : OwnV B e sz f w v xs) (hb : Blk w p t cs) (hne : t ≠ e) : ∀ k, v.ownBlock = some k → k ≠ p := by
  rintro k hk rfl
  rcases h.2 with ⟨rfl, _⟩ | ⟨g, cap, cur, rfl, hB, hh, r⟩
  · cases hk
  · have a1 : g = k := Option.some.inj hk
    subst a1
    unfold Blk at hb
    rw [hb] at hh
    injection hh with h1
    injection h1 with _ h2 _
    exact hne h2
theorem _root_.Go.G9.Blk.grownB2 {w w' : World} {g : Nat} {t : TypeId} {cs : Array Value} {r : Option Nat} (h : Blk w g t cs) (hg : w.grownBy w' r) (hne : r ≠ some g) : Blk w' g t cs := (hg.block g h.lt (fun e => hne e.symm)).trans h
theorem ndF_at {xs : List Cla} {i : Nat} {x : Cla} (h : xs[i]? = some x) : ndF xs i = x.needs := by rw [ndF, h]
/-- What a clause adds to the standing ones. -/
def stX (xs : List Cla) (ad : List Bool) (k : Nat) : Bool := atP ad k && (ndF xs k).all (fun n => (stF (ndF xs) (atP ad) k)[n.toNat]?.getD false)
theorem stF_succ (xs : List Cla) (ad : List Bool) (k : Nat) : stF (ndF xs) (atP ad) (k + 1) = stF (ndF xs) (atP ad) k ++ [stX xs ad k] := rfl
theorem any_all {ns : List Int} {p : Int → Bool} : ns.any (fun n => !p n) = !ns.all p := by
  induction ns with
  | nil => rfl
  | cons a ns ih => simp [ih, Bool.not_and]
theorem stdF_is (q : Nat) (Y : Option Addr) (c : Nat) (bs : List Bool) (x : Int) (h0 : 0 ≤ x) (h1 : x < bs.length) (W : World) (hB : Blk W q 25 #[.slice Y bs.length c]) (hR : Rds 1 blC W Y bs) :
  Calls Try.prog 46 (#[.int .i64 x] ++ #[.pointer (some ⟨q, 0, none⟩)]) W fun e w' => e = .returned (.bool (!((bs[x.toNat]?).getD false))) ∧ Below W.heap.size W w' := by
  obtain ⟨k, rfl⟩ : ∃ k : Nat, x = k := ⟨x.toNat, by omega⟩
  have hk : k < bs.length := by omega
  obtain ⟨b, off, y, rfl, hbl, hy, hcy⟩ := hR.at_ (Below.refl _ _) hk
  have f0 := hcy 0 _ rfl
  simp only [Nat.mul_one, Nat.add_zero] at f0
  have g0 := f0 (Kin.self _)
  simp only [Kin.self] at g0
  have q0 := (hB.cell 0).trans (show _ = some (.slice (some ⟨b, off, none⟩) bs.length c) from rfl)
  have hq := hB.lt
  have e1 : (bs[(k : Int).toNat]?).getD false = y := by rw [Int.toNat_natCast, hy]; rfl
  rw [e1]
  clear hcy f0 hy e1 hR hB
  go_enter Try.func46, Try.ntmps46
  go_wp2
  go_ret
  exact ⟨rfl, Below.refl _ _⟩
set_option maxHeartbeats 4000000 in
set_option maxRecDepth 100000 in
theorem standing_is (A : Option Addr) (c : Nat) (xs : List Cla) (D : Option Addr) (d : Nat) (ad : List Bool) (hv : voteB xs ad = true) (w : World) (hR : ClR w A xs) (hD : Rds 1 blC w D ad) :
  Calls Try.prog 26 #[.slice A xs.length c, .slice D ad.length d] w fun e w' => ∃ Y y, e = .returned (.slice Y (stF (ndF xs) (atP ad) xs.length).length y) ∧ OwnV w.heap.size 4 1 blC w' (.slice Y (stF (ndF xs) (atP ad) xs.length).length y) (stF (ndF xs) (atP ad) xs.length) ∧ Below w.heap.size w w' := by
  obtain ⟨i0, hi, hz0, hz1, hz2⟩ := info_parts info_bool
  have hn := hR.len
  simp only [voteB, Bool.and_eq_true] at hv
  have hgd := hv.1
  have hla : ad.length = xs.length := by have := hv.2; simp at this; omega
  have h8 := claB_len hgd
  have HG := Lib.hid hgd
  have HR := Lib.hid hR; have HD := Lib.hid hD
  have HLA := Lib.hid hla
  have HO0 := Lib.hid (OwnV.made (f := blC) (sz := 1) w (B := w.heap.size) (Nat.le_refl _) 4)
  clear hR hD hv hgd hla
  go_enter Try.func26, Try.ntmps26
  go_upto_region 2 with fail
  have hb0 : Below w.heap.size w ((w.alloc (.cells #[] 4)).alloc (.cells #[.slice (some ⟨w.heap.size, 0, none⟩) 0 0] 25)) := bl2 w _ _
  have hQ := Blk.new2 w (.cells #[] 4) 25 #[.slice (some ⟨w.heap.size, 0, none⟩) 0 0]
  have hO := HO0.out.alloc (.cells #[.slice (some ⟨w.heap.size, 0, none⟩) 0 0] 25)
  generalize ((w.alloc (.cells #[] 4)).alloc (.cells #[.slice (some ⟨w.heap.size, 0, none⟩) 0 0] 25)) = w0 at *
  obtain ⟨q, hq⟩ : ∃ q, q = w.heap.size + 1 := ⟨_, rfl⟩
  rw [← hq] at hQ
  have hqw : w.heap.size ≤ q := by omega
  rw [← hq]
  clear hq
  go_wp2
  go_loopw [11] (fun i wr => ∃ (k : Nat) (Y : Option Addr) (y : Nat), k ≤ xs.length ∧ i = .int .i64 k ∧ Blk wr q 25 #[.slice Y k y] ∧ OwnV w.heap.size 4 1 blC wr (.slice Y k y) (stF (ndF xs) (atP ad) k) ∧ Below w.heap.size w wr) (fun i _ => xs.length - (intOf i).toNat)
  case atStart => exact ⟨0, _, _, Nat.zero_le _, rfl, hQ, hO, hb0⟩
  case round =>
    clear hQ hO hb0
    obtain ⟨k, Y, y, hk, rfl, hQ, hO, HB⟩ := hrel
    by_cases hlt : k < xs.length
    · obtain ⟨b, off, x, rfl, hbl, hx, hcx⟩ := HR.out.rds.at_ HB hlt
      have hok := (HR.out.ok x (List.mem_of_getElem? hx)).below HB
      have hnd := claB_needs HG.out hx
      obtain ⟨wa, wc, ws, na, nc, ns⟩ := x
      have f0 := hcx 0 _ rfl
      have f1 := hcx 1 _ rfl
      simp only [Nat.add_zero] at f0
      have g0 := f0 (Kin.self _)
      have g1 := f1 (Kin.self _)
      simp only [Kin.self] at g0
      simp only [Kin.self] at g1
      have HX := Lib.hid hx; clear hx hcx f0 f1
      go_upto_region 5 with fail
      have hq1 := bl1 wr (.cells #[.slice wa ws.length wc, .slice na ns.length nc] 53)
      have hX := Blk.new wr 53 #[.slice wa ws.length wc, .slice na ns.length nc]
      have hQ2 := hQ.alloc (.cells #[.slice wa ws.length wc, .slice na ns.length nc] 53)
      have hO2 := hO.alloc (.cells #[.slice wa ws.length wc, .slice na ns.length nc] 53)
      replace HB := bth HB hq1
      have hok2 := Lib.hid (hok.below hq1)
      clear g0 g1 hQ hO hok
      generalize wr.alloc (.cells #[.slice wa ws.length wc, .slice na ns.length nc] 53) = wX at *
      have hp0 := hX.lt
      have hQl := hQ2.lt
      have hsk : (stF (ndF xs) (atP ad) k).length = k := stF_len _ _ k
      have HSK := Lib.hid hsk
      have HSX : Hid (stX xs ad k = (atP ad k && ns.all (fun n => (stF (ndF xs) (atP ad) k)[n.toNat]?.getD false))) := Lib.hid (by rw [stX, ndF_at HX.out])
      have HSS : Hid (stF (ndF xs) (atP ad) (k + 1) = stF (ndF xs) (atP ad) k ++ [stX xs ad k]) := Lib.hid (stF_succ xs ad k)
      generalize stF (ndF xs) (atP ad) k = bs at *
      obtain ⟨bd, od, a, hDe, hbd, had, hcd⟩ := HD.out.at_ (Below.refl _ _) (k := k) (by have := HLA.out; omega)
      have hae : atP ad k = a := atP_at had
      have HAE := Lib.hid hae
      subst hDe
      clear hsk hae had
      have p0 := (hX.cell 0).trans (show _ = some (.slice wa ws.length wc) from rfl)
      have p1 := (hX.cell 1).trans (show _ = some (.slice na ns.length nc) from rfl)
      have q0 := (hQ2.cell 0).trans (show _ = some (.slice Y k y) from rfl)
      have HO := Lib.hid hO2
      have hka : (k : Int) < (ad.length : Int) := by have := HLA.out; omega
      obtain ⟨CC1, hCC1⟩ : ∃ X : World → Prop, ∀ V, X V ↔ (Below w.heap.size w V ∧ Blk V (wr.heap.size) 53 #[.slice wa ws.length wc, .slice na ns.length nc] ∧ Blk V (q) 25 #[.slice Y k y]) := ⟨_, fun _ => Iff.rfl⟩
      have HCC1 := Lib.hid hCC1; clear hCC1
      haveI : Nonempty (Hld CC1) := ⟨⟨wX, ((HCC1.out _).2 ⟨HB, hX, hQ2⟩)⟩⟩
      clear p0 p1
      clear q0
      have p0 := fun K : Hld CC1 => (((HCC1.out _).1 K.holds).2.1.cell 0).trans (show _ = some (.slice wa ws.length wc) from rfl)
      have p1 := fun K : Hld CC1 => (((HCC1.out _).1 K.holds).2.1.cell 1).trans (show _ = some (.slice na ns.length nc) from rfl)
      have q0 := fun K : Hld CC1 => (((HCC1.out _).1 K.holds).2.2.cell 0).trans (show _ = some (.slice Y k y) from rfl)
      have f0 := hcd 0 _ rfl
      simp only [Nat.mul_one, Nat.add_zero] at f0
      have d0 := fun K : Hld CC1 => f0 ⟨K.world, ((HCC1.out _).1 K.holds).1⟩
      haveI : Nonempty (Hld (fun _ => True)) := ⟨⟨wX, trivial⟩⟩
      clear f0 hcd hO2
      cases a
      all_goals
        refine wp_region_mx CC1 [([0, 1, 2, 3, 4, 5, 6, 7], [], 8, false), ([], [], 9, false), ([], [10, 11], 12, false), ([], [], 13, false), ([], [], 14, true)] [] [] (by kernel_rfl) (by kernel_rfl) ((HCC1.out _).2 ⟨HB.drew, hX, hQ2⟩) ?_
        refine wpMx_cons fun K0 hK0 => ?_
        change wpQuiet _ _ _ _ (_ :: _ :: _ :: _ :: _ :: _ :: _ :: _ :: []) _
        repeat (go_big_quiet_step (fail))
        refine wpQuiet_nil ?_
        refine wpQuiet_nil ?_
        change wpList _ _ _ (_ :: []) _ _
      case false =>
          go_wp2
          have hb9 := (Below.refl wX.heap.size wX).drew
          replace HB : Below w.heap.size w wX.drew := HB.drew
          have hX9 := hX.below hb9 hX.lt
          have hQ9 := hQ2.below hb9 hQ2.lt
          have hO9 := HO.out.later hb9
          have hok9 := Lib.hid (hok2.out.below hb9)
          clear hX hQ2 hok2 p0 p1 q0 d0
          generalize wX.drew = W7 at *
          refine Nrm_keep ((HCC1.out _).2 ⟨HB, hX9, hQ9⟩) (hK0 _ _ ?_)
          refine wpMx_cons fun K1 hK1 => ?_
          refine wpQuiet_nil ?_
          refine wpQuiet_nil ?_
          change wpList _ _ _ (_ :: []) _ _
          go_wp2
          clear hok9
          generalize W7 = W8 at *
          have HVB : Hid (stX xs ad k = false) := Lib.hid (by rw [HSX.out, HAE.out]; rfl)
          refine Nrm_keep ((HCC1.out _).2 ⟨HB, hX9, hQ9⟩) (hK1 _ _ ?_)
          refine wpMx_cons fun K2 hK2 => ?_
          refine wpQuiet_nil ?_
          change wpQuiet _ _ _ _ (_ :: _ :: []) _
          repeat (go_big_quiet_step (fail))
          refine wpQuiet_nil ?_
          change wpList _ _ _ (_ :: []) _ _
          go_wp2
          have hR1 : Rds 1 blC (W8.alloc (.cells #[.bool (false)] 4)) (some ⟨W8.heap.size, 0, none⟩) [false] := Rds.one _ _
          have hb10 := bl1 W8 (.cells #[.bool (false)] 4)
          have hsz8 : w.heap.size ≤ W8.heap.size := HB.size
          have hne8 : ∀ q', (Value.slice Y k y).ownBlock = some q' → q' ≠ W8.heap.size := fun q' hq' e => by have := (hO9.lt q' hq').2; omega
          replace HB := bth HB hb10
          replace hX9 := hX9.below hb10 hX9.lt
          replace hQ9 := hQ9.below hb10 hQ9.lt
          replace hO9 := hO9.later hb10
          have hnx : ∀ q', (Value.slice Y k y).ownBlock = some q' → q' ≠ wr.heap.size := notBlkC hO9 hX9 (by decide)
          have hnq : ∀ q', (Value.slice Y k y).ownBlock = some q' → q' ≠ q := notBlkC hO9 hQ9 (by decide)
          generalize W8.alloc (.cells #[.bool (false)] 4) = W9 at *
          refine Nrm_keep ((HCC1.out _).2 ⟨HB, hX9, hQ9⟩) (hK2 _ _ ?_)
          refine wpMx_cons fun K3 hK3 => ?_
          refine wpQuiet_nil ?_
          refine wpQuiet_nil ?_
          change wpList _ _ _ (_ :: []) _ _
          go_wp2_with ((at_builtin; refine wpList_app1 rfl _ _ 25 rfl w.heap.size 4 i0 _ 1 1 Try.underlying25 hi hz0 hz1 hz2 rfl (by decide) blC blC_len blC_one _ bs rfl hO9 ⟨W8.heap.size, 0, none⟩ 1 (false) rfl hR1 (by have := HSK.out; unfold maxLen; omega) (by have := HSK.out; omega) (by have := HB.size; simp; omega) ?_; intro v4 w4 hO4 hg4 ha4))
          have hgr := hg4
          have hY9 : ∀ q', (Value.slice Y k y).ownBlock = some q' → w.heap.size ≤ q' := fun q' hq' => (hO9.lt q' hq').1
          have hX10 := (hX9.grownB2 hgr (fun e => hnx _ e rfl))
          have hQ10 := (hQ9.grownB2 hgr (fun e => hnq _ e rfl))
          replace HB : Below w.heap.size w w4 := HB.grown hgr HB.size (fun q' hq' => hY9 q' hq')
          obtain ⟨Y2, y2, hv4, _, _, _⟩ := hO4.form blC_len
          rw [show (bs ++ [false]).length = k + 1 by rw [List.length_append, HSK.out]; rfl] at hv4
          subst hv4
          refine Nrm_keep ((HCC1.out _).2 ⟨HB, hX10, hQ10⟩) (hK3 _ _ ?_)
          refine wpMx_cons fun K4 hK4 => ?_
          refine wpQuiet_nil ?_
          refine wpQuiet_nil ?_
          change wpList _ _ _ (_ :: []) _ _
          have hql := hQ10.lt
          have q0 := (hQ10.cell 0).trans (show _ = some (.slice Y k y) from rfl)
          have fq0 := hQ10.frozen 0
          go_wp2
          refine Nrm_drop (hK4 _ _ ?_)
          refine wpMx_last ?_
          refine wpQuiet_nil ?_
          refine wpQuiet_nil ?_
          clear q0 fq0
          have hnq4 : ∀ q', (Value.slice Y2 (k + 1) y2).ownBlock = some q' → q' ≠ q := notBlkC hO4 hQ10 (by decide)
          replace hQ10 : Blk (w4.setCell ⟨q, 0, none⟩ (.slice Y2 (k + 1) y2)) q 25 #[.slice Y2 (k + 1) y2] := hQ10.set_ 0 _
          replace hO4 := hO4.kept (grown_set (j := 0) (g := q) (grown_refl w4 (some q)) (.slice Y2 (k + 1) y2)) (fun q' hq' e => hnq4 q' hq' (Option.some.inj e))
          replace HB : Below w.heap.size w (w4.setCell ⟨q, 0, none⟩ (.slice Y2 (k + 1) y2)) := HB.setCell hqw _
          generalize w4.setCell ⟨q, 0, none⟩ (.slice Y2 (k + 1) y2) = W10 at *
          go_wp2
          go_roundw
          case rel => exact ⟨k + 1, Y2, y2, by omega, by go_num, hQ10, by rw [HSS.out, HVB.out]; exact hO4, HB⟩
          case measure => simp [intOf]; omega
      case true =>
          go_wp2
          have hb9 := (Below.refl wX.heap.size wX).drew
          replace HB : Below w.heap.size w wX.drew := HB.drew
          have hX9 := hX.below hb9 hX.lt
          have hQ9 := hQ2.below hb9 hQ2.lt
          have hO9 := HO.out.later hb9
          have hok9 := Lib.hid (hok2.out.below hb9)
          clear hX hQ2 hok2 p0 p1 q0 d0
          generalize wX.drew = W7 at *
          refine Nrm_keep ((HCC1.out _).2 ⟨HB, hX9, hQ9⟩) (hK0 _ _ ?_)
          refine wpMx_cons fun K1 hK1 => ?_
          refine wpQuiet_nil ?_
          refine wpQuiet_nil ?_
          change wpList _ _ _ (_ :: []) _ _
          have HF : Hid (∀ x, x ∈ ns → ∀ V, Below W7.heap.size W7 V → Calls Try.prog 46 (#[.int .i64 x] ++ #[.pointer (some ⟨q, 0, none⟩)]) V fun e w' => e = .returned (.bool ((fun n => !((bs[n.toNat]?).getD false)) x)) ∧ Below V.heap.size V w') := Lib.hid fun x hx V hV => by
            have h1 := hnd x hx
            have h2 := stdF_is q Y y bs x h1.1 (by rw [HSK.out]; exact h1.2) V (by rw [HSK.out]; exact hQ9.below hV hQ9.lt) ((hO9.rds blC_len).below hV)
            exact h2
          generalize ha : ns.any (fun n => !((bs[n.toNat]?).getD false)) = av
          have HA := Lib.hid ha; clear ha
          go_wp2_with ((go_at_call 45; refine (containsFunc_int na nc ns (by have : ns.length ≤ 1000 := hok9.out.ln; omega) 46 #[.pointer (some ⟨q, 0, none⟩)] (run_enter Try.func46 (by kernel_rfl) (by kernel_rfl)) _ _ HA.out _ hok9.out.rn HF.out).mono ?_; rintro e W8 ⟨rfl, hb8⟩))
          replace HB := bth HB hb8
          replace hX9 := hX9.below hb8 hX9.lt
          replace hQ9 := hQ9.below hb8 hQ9.lt
          replace hO9 := hO9.later hb8
          clear HF hok9
          have HVB : Hid (stX xs ad k = !av) := Lib.hid (by rw [HSX.out, HAE.out]; rw [← HA.out, any_all]; simp)
          refine Nrm_keep ((HCC1.out _).2 ⟨HB, hX9, hQ9⟩) (hK1 _ _ ?_)
          refine wpMx_cons fun K2 hK2 => ?_
          refine wpQuiet_nil ?_
          change wpQuiet _ _ _ _ (_ :: _ :: []) _
          repeat (go_big_quiet_step (fail))
          refine wpQuiet_nil ?_
          change wpList _ _ _ (_ :: []) _ _
          go_wp2
          have hR1 : Rds 1 blC (W8.alloc (.cells #[.bool (!av)] 4)) (some ⟨W8.heap.size, 0, none⟩) [!av] := Rds.one _ _
          have hb10 := bl1 W8 (.cells #[.bool (!av)] 4)
          have hsz8 : w.heap.size ≤ W8.heap.size := HB.size
          have hne8 : ∀ q', (Value.slice Y k y).ownBlock = some q' → q' ≠ W8.heap.size := fun q' hq' e => by have := (hO9.lt q' hq').2; omega
          replace HB := bth HB hb10
          replace hX9 := hX9.below hb10 hX9.lt
          replace hQ9 := hQ9.below hb10 hQ9.lt
          replace hO9 := hO9.later hb10
          have hnx : ∀ q', (Value.slice Y k y).ownBlock = some q' → q' ≠ wr.heap.size := notBlkC hO9 hX9 (by decide)
          have hnq : ∀ q', (Value.slice Y k y).ownBlock = some q' → q' ≠ q := notBlkC hO9 hQ9 (by decide)
          generalize W8.alloc (.cells #[.bool (!av)] 4) = W9 at *
          refine Nrm_keep ((HCC1.out _).2 ⟨HB, hX9, hQ9⟩) (hK2 _ _ ?_)
          refine wpMx_cons fun K3 hK3 => ?_
          refine wpQuiet_nil ?_
          refine wpQuiet_nil ?_
          change wpList _ _ _ (_ :: []) _ _
          go_wp2_with ((at_builtin; refine wpList_app1 rfl _ _ 25 rfl w.heap.size 4 i0 _ 1 1 Try.underlying25 hi hz0 hz1 hz2 rfl (by decide) blC blC_len blC_one _ bs rfl hO9 ⟨W8.heap.size, 0, none⟩ 1 (!av) rfl hR1 (by have := HSK.out; unfold maxLen; omega) (by have := HSK.out; omega) (by have := HB.size; simp; omega) ?_; intro v4 w4 hO4 hg4 ha4))
          have hgr := hg4
          have hY9 : ∀ q', (Value.slice Y k y).ownBlock = some q' → w.heap.size ≤ q' := fun q' hq' => (hO9.lt q' hq').1
          have hX10 := (hX9.grownB2 hgr (fun e => hnx _ e rfl))
          have hQ10 := (hQ9.grownB2 hgr (fun e => hnq _ e rfl))
          replace HB : Below w.heap.size w w4 := HB.grown hgr HB.size (fun q' hq' => hY9 q' hq')
          obtain ⟨Y2, y2, hv4, _, _, _⟩ := hO4.form blC_len
          rw [show (bs ++ [!av]).length = k + 1 by rw [List.length_append, HSK.out]; rfl] at hv4
          subst hv4
          refine Nrm_keep ((HCC1.out _).2 ⟨HB, hX10, hQ10⟩) (hK3 _ _ ?_)
          refine wpMx_cons fun K4 hK4 => ?_
          refine wpQuiet_nil ?_
          refine wpQuiet_nil ?_
          change wpList _ _ _ (_ :: []) _ _
          have hql := hQ10.lt
          have q0 := (hQ10.cell 0).trans (show _ = some (.slice Y k y) from rfl)
          have fq0 := hQ10.frozen 0
          go_wp2
          refine Nrm_drop (hK4 _ _ ?_)
          refine wpMx_last ?_
          refine wpQuiet_nil ?_
          refine wpQuiet_nil ?_
          clear q0 fq0
          have hnq4 : ∀ q', (Value.slice Y2 (k + 1) y2).ownBlock = some q' → q' ≠ q := notBlkC hO4 hQ10 (by decide)
          replace hQ10 : Blk (w4.setCell ⟨q, 0, none⟩ (.slice Y2 (k + 1) y2)) q 25 #[.slice Y2 (k + 1) y2] := hQ10.set_ 0 _
          replace hO4 := hO4.kept (grown_set (j := 0) (g := q) (grown_refl w4 (some q)) (.slice Y2 (k + 1) y2)) (fun q' hq' e => hnq4 q' hq' (Option.some.inj e))
          replace HB : Below w.heap.size w (w4.setCell ⟨q, 0, none⟩ (.slice Y2 (k + 1) y2)) := HB.setCell hqw _
          generalize w4.setCell ⟨q, 0, none⟩ (.slice Y2 (k + 1) y2) = W10 at *
          go_wp2
          go_roundw
          case rel => exact ⟨k + 1, Y2, y2, by omega, by go_num, hQ10, by rw [HSS.out, HVB.out]; exact hO4, HB⟩
          case measure => simp [intOf]; omega
    · obtain rfl : k = xs.length := by omega
      have q0 := (hQ.cell 0).trans (show _ = some (.slice Y xs.length y) from rfl)
      have hQl := hQ.lt
      go_wp2
      go_ret
      exact ⟨Y, y, by rw [stF_len]; rfl, by rw [stF_len]; exact hO, HB⟩
end Go.Proofs.Ytndenojanflkgaa
