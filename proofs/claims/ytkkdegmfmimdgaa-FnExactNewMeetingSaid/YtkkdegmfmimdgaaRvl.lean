/- Rules: whether a list of rules is valid. -/
import Derived.Test.YtkkdegmfmimdgaaRul
import Derived.Test.YtkkdegmfmimdgaaMark
import Derived.Deep.RegionWith
namespace Go.Proofs.Ytkkdegmfmimdgaa
open Go.RowKit Go.G9
theorem anyTake_no {T : Type} {p : T → Bool} {xs : List T} {k : Nat} (h : allTo (fun i => !atB p xs i) k = true) : (xs.take k).any p = false := by
  cases hc : (xs.take k).any p with
  | false => rfl
  | true =>
    obtain ⟨x, hx, hp⟩ := List.any_eq_true.1 hc
    obtain ⟨m, hm⟩ := List.mem_iff_getElem?.1 hx
    rw [List.getElem?_take] at hm
    split at hm
    · rename_i hlt
      have := allTo_iff.1 h m hlt
      simp [atB, hm, hp] at this
    · cases hm
theorem anyTake_yes {T : Type} {p : T → Bool} {xs : List T} {k m : Nat} {x : T} (hm : m < k) (hx : xs[m]? = some x) (hp : p x = true) : (xs.take k).any p = true :=
  List.any_eq_true.2 ⟨x, List.mem_iff_getElem?.2 ⟨m, by rw [List.getElem?_take, if_pos hm]; exact hx⟩, hp⟩
theorem rds_takeR {T : Type} {sz : Nat} {f : T → List Value} {w : World} {A : Option Addr} {xs : List T} (h : Rds sz f w A xs) (k : Nat) : Rds sz f w A (xs.take k) := by
  intro hn
  have hn0 : 0 < xs.length := by simp at hn; omega
  obtain ⟨b, off, h1, h2, h3⟩ := h hn0
  exact ⟨b, off, h1, h2, fun i x hx j u hu => h3 i x (by rw [List.getElem?_take] at hx; split at hx; exact hx; cases hx) j u hu⟩
theorem ruleStep_succ {xs : List Rul} {j : Nat} {x y : Rul} (hx : xs[j + 1]? = some x) (hy : xs[j]? = some y) : ruleStep xs (j + 1) = (ruleB x && (decide (y.id < x.id) && !(xs.take (j + 1)).any (fun z => z.name.toList == x.name.toList))) := by
  simp only [ruleStep, hx, hy]
theorem rulesB_len {xs : List Rul} (h : rulesB xs = true) : xs.length ≤ 8 := by
  simp only [rulesB, Bool.and_eq_true, decide_eq_true_eq] at h; exact h.2
theorem ruleNmF_is (nm : ByteArray) (g : Nat) (x : Rul) (W : World) (hg : W.cell? ⟨g, 1, none⟩ = some (.string nm)) (hl : g < W.heap.size) :
  Calls Try.prog 100 (#[.agg #[.int .i64 x.id, .string x.name, .int .i64 x.rank, .bool x.second, .bool x.debate, .bool x.amend, .int .i64 x.need]] ++ #[.pointer (some ⟨g, 0, none⟩)]) W fun e w' => e = .returned (.bool (x.name.toList == nm.toList)) ∧ Below W.heap.size W w' := by
  cases hb : x.name.toList == nm.toList
  all_goals
    have hb2 := Lib.hid hb
    go_enter Try.func100, Try.ntmps100
    go_wp2
    go_ret
    exact ⟨rfl, bl1 _ _⟩
set_option maxHeartbeats 2000000 in
set_option maxRecDepth 100000 in
theorem isValidRules_is (A : Option Addr) (c : Nat) (xs : List Rul) (hn : xs.length ≤ 1048576) (hc : xs.length ≤ c) (v : Bool) (hv : rulesB xs = v) (w : World) (hR : Rds 7 Rul.cells w A xs) :
  Calls Try.prog 65 #[.slice A xs.length c] w fun e w' => e = .returned (.bool v) ∧ Below w.heap.size w w' := by
  subst hv
  go_enter Try.func65, Try.ntmps65
  go_wp2
  go_loopw [7] (fun i wr => ∃ k : Nat, k ≤ xs.length ∧ i = .int .i64 k ∧ allTo (ruleStep xs) k = true ∧ Below w.heap.size w wr) (fun i _ => xs.length - (intOf i).toNat)
  case atStart => exact ⟨0, Nat.zero_le _, rfl, rfl, Below.refl _ _⟩
  case round =>
    obtain ⟨k, hk, rfl, hl, hb⟩ := hrel
    have HL := Lib.hid hl; clear hl
    by_cases hlt : k < xs.length
    · have hkc : (k : Int) ≤ (c : Int) := by omega
      have hRw := hR.below hb
      obtain ⟨b, off, x, rfl, hbl, hx, hcx⟩ := hR.at_ hb hlt
      obtain ⟨id, nm, rk, se, de, am, nd, hs⟩ := x
      have hbx := fun j => boxed wr #[.int .i64 id, .string nm, .int .i64 rk, .bool se, .bool de, .bool am, .int .i64 nd] 88 j
      have n0 := hbx 0 _ rfl
      have n1 := hbx 1 _ rfl
      have n2 := hbx 2 _ rfl
      have n3 := hbx 3 _ rfl
      have n4 := hbx 4 _ rfl
      have n5 := hbx 5 _ rfl
      have n6 := hbx 6 _ rfl
      clear hbx
      obtain ⟨d, hd⟩ : ∃ d, (xs.take k).any (fun z => z.name.toList == nm.toList) = d := ⟨_, rfl⟩
      have HCF : Hid (∀ W cc, Below (wr.alloc (.cells #[.int .i64 id, .string nm, .int .i64 rk, .bool se, .bool de, .bool am, .int .i64 nd] 88)).heap.size (wr.alloc (.cells #[.int .i64 id, .string nm, .int .i64 rk, .bool se, .bool de, .bool am, .int .i64 nd] 88)) W →
          Calls Try.prog 99 #[.slice (some ⟨b, off, none⟩) k cc, .func (.func 100) #[] #[.pointer (some ⟨wr.heap.size, 0, none⟩)]] W fun e w' => e = .returned (.bool d) ∧ Below W.heap.size W w') := Lib.hid fun W cc hW => by
        have hkl : (xs.take k).length = k := by rw [List.length_take]; omega
        have hB := Blk.below (Blk.new wr 88 #[.int .i64 id, .string nm, .int .i64 rk, .bool se, .bool de, .bool am, .int .i64 nd]) hW (by simp)
        have h := containsFunc_Rul (some ⟨b, off, none⟩) cc (xs.take k) (by omega) 100 #[.pointer (some ⟨wr.heap.size, 0, none⟩)] (run_enter Try.func100 (by kernel_rfl) (by kernel_rfl)) (fun z => z.name.toList == nm.toList) d hd W ((rds_takeR hRw k).below (bth (bl1 _ _) hW)) (fun x _ V hV => ruleNmF_is nm wr.heap.size x V ((hB.below hV hB.lt).cell 1) (hB.below hV hB.lt).lt)
        rw [hkl] at h; exact h
      have HD := Lib.hid hd; clear hd hRw
      cases k with
      | zero =>
        have hd0 : d = false := by rw [← HD.out]; rfl
        subst hd0
        have f0 := hcx 0 _ rfl
        have f1 := hcx 1 _ rfl
        have f2 := hcx 2 _ rfl
        have f3 := hcx 3 _ rfl
        have f4 := hcx 4 _ rfl
        have f5 := hcx 5 _ rfl
        have f6 := hcx 6 _ rfl
        simp only [Nat.zero_mul, Nat.add_zero] at f0
        simp only [Nat.zero_mul] at f1
        simp only [Nat.zero_mul] at f2
        simp only [Nat.zero_mul] at f3
        simp only [Nat.zero_mul] at f4
        simp only [Nat.zero_mul] at f5
        simp only [Nat.zero_mul] at f6
        have g0 := f0 (Kin.self _)
        have g1 := f1 (Kin.self _)
        have g2 := f2 (Kin.self _)
        have g3 := f3 (Kin.self _)
        have g4 := f4 (Kin.self _)
        have g5 := f5 (Kin.self _)
        have g6 := f6 (Kin.self _)
        simp only [Kin.self] at g0
        simp only [Kin.self] at g1
        simp only [Kin.self] at g2
        simp only [Kin.self] at g3
        simp only [Kin.self] at g4
        simp only [Kin.self] at g5
        simp only [Kin.self] at g6
        have HX := Lib.hid hx; clear hx hcx
        cases hv : ruleB ⟨id, nm, rk, se, de, am, nd, hs⟩
        all_goals
          have HV := Lib.hid hv
          go_wp2
          refine wp_region_kin (by kernel_rfl) (by kernel_rfl) ?_
          repeat (go_big_quiet_step ((first | (go_at_call 98; exact Kin.call _ (Nat.le_refl _) (isValidRule_is ⟨id, nm, rk, se, de, am, nd, hs⟩ _ HV.out _)) | (go_at_call 99; exact Kin.call _ (Nat.le_refl _) (HCF.out _ _ (Kin.below _))))))
          refine wpQuiet_nil ?_
          intro K
          go_wp2
        · go_ret
          exact ⟨ret_bool (by rw [rulesB, allTo_not hlt (by simp [ruleStep, HX.out, hv])]; rfl), bth hb (bth (bl1 _ _) K.below)⟩
        · go_roundw
          case rel => exact ⟨1, by omega, by go_num, allTo_go HL.out (by simp [ruleStep, HX.out, hv]), bth hb (bth (bl1 _ _) K.below)⟩
          case measure => simp [intOf]; omega
      | succ j =>
        obtain ⟨b', off', y, e', _, hy, hcy⟩ := hR.at_ hb (k := j) (by omega)
        simp only [Option.some.injEq, Addr.mk.injEq, and_true] at e'
        obtain ⟨rfl, rfl⟩ := e'
        obtain ⟨yid, yn, yr, ys, yd, ya, ynd, yok⟩ := y
        have f0 := hcx 0 _ rfl
        have f1 := hcx 1 _ rfl
        have f2 := hcx 2 _ rfl
        have f3 := hcx 3 _ rfl
        have f4 := hcx 4 _ rfl
        have f5 := hcx 5 _ rfl
        have f6 := hcx 6 _ rfl
        simp only [Nat.add_zero] at f0
        have g0 := f0 (Kin.self _)
        have g1 := f1 (Kin.self _)
        have g2 := f2 (Kin.self _)
        have g3 := f3 (Kin.self _)
        have g4 := f4 (Kin.self _)
        have g5 := f5 (Kin.self _)
        have g6 := f6 (Kin.self _)
        simp only [Kin.self] at g0
        simp only [Kin.self] at g1
        simp only [Kin.self] at g2
        simp only [Kin.self] at g3
        simp only [Kin.self] at g4
        simp only [Kin.self] at g5
        simp only [Kin.self] at g6
        have y0 := hcy 0 _ rfl
        simp only [Nat.add_zero] at y0
        have y0' := fun K : Kin (wr.alloc _).heap.size (wr.alloc (.cells #[.int .i64 id, .string nm, .int .i64 rk, .bool se, .bool de, .bool am, .int .i64 nd] 88)) => y0 (K.drop (bl1 _ _))
        simp only [Kin.drop] at y0'
        have HX := Lib.hid hx; clear hx hcx
        have HY := Lib.hid hy; clear hy hcy y0
        cases hv : ruleB ⟨id, nm, rk, se, de, am, nd, hs⟩
        · have HV := Lib.hid hv
          go_wp2
          refine wp_region_kin (by kernel_rfl) (by kernel_rfl) ?_
          repeat (go_big_quiet_step ((first | (go_at_call 98; exact Kin.call _ (Nat.le_refl _) (isValidRule_is ⟨id, nm, rk, se, de, am, nd, hs⟩ _ HV.out _)) | (go_at_call 99; exact Kin.call _ (Nat.le_refl _) (HCF.out _ _ (Kin.below _))))))
          refine wpQuiet_nil ?_
          intro K
          go_wp2
          go_ret
          exact ⟨ret_bool (by rw [rulesB, allTo_not hlt (by simp [ruleStep, HX.out, HY.out, hv])]; rfl), bth hb (bth (bl1 _ _) K.below)⟩
        · have HV := Lib.hid hv
          by_cases hid : yid < id
          · have hle : decide (id ≤ yid) = false := decide_eq_false (by omega)
            cases d
            all_goals
              go_wp2
              refine wp_region_kin (by kernel_rfl) (by kernel_rfl) ?_
              repeat (go_big_quiet_step ((first | (go_at_call 98; exact Kin.call _ (Nat.le_refl _) (isValidRule_is ⟨id, nm, rk, se, de, am, nd, hs⟩ _ HV.out _)) | (go_at_call 99; exact Kin.call _ (Nat.le_refl _) (HCF.out _ _ (Kin.below _))))))
              refine wpQuiet_nil ?_
              intro K
              go_wp2
            · go_roundw
              case rel => exact ⟨j + 1 + 1, by omega, by go_num, allTo_go HL.out (by rw [ruleStep_succ HX.out HY.out, hv, HD.out, decide_eq_true (show (Rul.id ⟨yid, yn, yr, ys, yd, ya, ynd, yok⟩) < (Rul.id ⟨id, nm, rk, se, de, am, nd, hs⟩) from hid)]; rfl), bth hb (bth (bl1 _ _) K.below)⟩
              case measure => simp [intOf]; omega
            · go_ret
              exact ⟨ret_bool (by rw [rulesB, allTo_not hlt (by rw [ruleStep_succ HX.out HY.out, hv, HD.out, decide_eq_true (show (Rul.id ⟨yid, yn, yr, ys, yd, ya, ynd, yok⟩) < (Rul.id ⟨id, nm, rk, se, de, am, nd, hs⟩) from hid)]; rfl)]; rfl), bth hb (bth (bl1 _ _) K.below)⟩
          · have hle : decide (id ≤ yid) = true := decide_eq_true (by omega)
            go_wp2
            refine wp_region_kin (by kernel_rfl) (by kernel_rfl) ?_
            repeat (go_big_quiet_step ((first | (go_at_call 98; exact Kin.call _ (Nat.le_refl _) (isValidRule_is ⟨id, nm, rk, se, de, am, nd, hs⟩ _ HV.out _)) | (go_at_call 99; exact Kin.call _ (Nat.le_refl _) (HCF.out _ _ (Kin.below _))))))
            refine wpQuiet_nil ?_
            intro K
            go_wp2
            go_ret
            exact ⟨ret_bool (by rw [rulesB, allTo_not hlt (by rw [ruleStep_succ HX.out HY.out, hv, decide_eq_false (show ¬ (Rul.id ⟨yid, yn, yr, ys, yd, ya, ynd, yok⟩) < (Rul.id ⟨id, nm, rk, se, de, am, nd, hs⟩) from by show ¬ (yid < id); omega)]; rfl)]; rfl), bth hb (bth (bl1 _ _) K.below)⟩
    · obtain rfl : k = xs.length := by omega
      go_wp2
      go_ret
      exact ⟨ret_bool (by rw [rulesB, HL.out]; simp; omega), hb⟩
end Go.Proofs.Ytkkdegmfmimdgaa
