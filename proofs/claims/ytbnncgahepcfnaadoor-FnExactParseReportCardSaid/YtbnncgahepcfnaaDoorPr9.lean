/- Reports: valid ones, the greatest turnout, the closest result. -/
import Derived.Test.YtbnncgahepcfnaaDoorPr8
import Derived.Test.YtbnncgahepcfnaaDoorPr6
import Derived.Test.YtbnncgahepcfnaaDoorPr7
import Derived.Deep.RegionWith
import Derived.Deep.Cut
namespace Go.Proofs.YtbnncgahepcfnaaDoor
open Go.RowKit Go.G9
theorem all_at {T : Type} (p : T → Bool) (xs : List T) : allTo (atB p xs) xs.length = xs.all p := by
  rw [Bool.eq_iff_iff, allTo_iff, List.all_eq_true]
  constructor
  · intro h x hx
    obtain ⟨i, hi⟩ := List.getElem?_of_mem hx
    have := h i (List.getElem?_eq_some_iff.1 hi).1
    simpa [atB, hi] using this
  · intro h i hi
    simp [atB, List.getElem?_eq_getElem hi, h _ (List.getElem_mem hi)]
theorem reportB_eq (xs : List Res) : reportB xs = (allTo (atB resB xs) xs.length && decide (xs.length ≤ 12)) := by
  rw [all_at, reportB, Bool.and_comm]; congr 1
  rw [Bool.eq_iff_iff]; simp
theorem reportB_at {xs : List Res} (h : reportB xs = true) {k : Nat} {r : Res} (hr : xs[k]? = some r) : resB r = true := by
  rw [reportB_eq, Bool.and_eq_true] at h
  have := allTo_iff.1 h.1 k (List.getElem?_eq_some_iff.1 hr).1
  simpa [atB, hr] using this
theorem reportB_len {xs : List Res} (h : reportB xs = true) : xs.length ≤ 12 := by
  rw [reportB_eq, Bool.and_eq_true] at h; simpa using h.2
theorem resB_bd {m : ByteArray} {nd y n a : Int} {hs : m.size ≤ maxLen} (h : resB ⟨m, nd, y, n, a, hs⟩ = true) : 0 ≤ y ∧ y ≤ 1000 ∧ 0 ≤ n ∧ n ≤ 1000 ∧ 0 ≤ a ∧ a ≤ 1000 ∧ 1 ≤ nd ∧ nd ≤ 3 := by
  simp [resB, tallyB, inB] at h; omega
theorem l26Good_is (A : Option Addr) (c : Nat) (xs : List Res) (hn : xs.length ≤ 1048576) (v : Bool) (hv : reportB xs = v) (w : World) (hR : Rds 5 Res.cells w A xs) :
  Calls Tryd.prog 48 #[.slice A xs.length c] w fun e w' => e = .returned (.bool v) ∧ Below w.heap.size w w' := by
  subst hv
  go_enter Tryd.func48, Tryd.ntmps48
  go_wp2
  go_loopw [3] (fun i wr => ∃ k : Nat, k ≤ xs.length ∧ i = .int .i64 k ∧ allTo (atB resB xs) k = true ∧ Below w.heap.size w wr) (fun i _ => xs.length - (intOf i).toNat)
  case atStart => exact ⟨0, Nat.zero_le _, rfl, rfl, Below.refl _ _⟩
  case round =>
    obtain ⟨k, hk, rfl, hl, hb⟩ := hrel
    have HL := Lib.hid hl; clear hl
    by_cases hlt : k < xs.length
    · obtain ⟨b, off, x, rfl, hbl, hx, hcx⟩ := hR.at_ hb hlt
      obtain ⟨m, nd, y, n, a, hs⟩ := x
      have f0 := hcx 0 _ rfl
      have f1 := hcx 1 _ rfl
      have f2 := hcx 2 _ rfl
      have f3 := hcx 3 _ rfl
      have f4 := hcx 4 _ rfl
      simp only [Nat.add_zero] at f0
      have g0 := f0 (Kin.self _)
      have g1 := f1 (Kin.self _)
      have g2 := f2 (Kin.self _)
      have g3 := f3 (Kin.self _)
      have g4 := f4 (Kin.self _)
      simp only [Kin.self] at g0
      simp only [Kin.self] at g1
      simp only [Kin.self] at g2
      simp only [Kin.self] at g3
      simp only [Kin.self] at g4
      have HX := Lib.hid hx; clear hx hcx
      cases hv : resB ⟨m, nd, y, n, a, hs⟩
      · go_wp2_with fail
        refine (l26One_is _ _ _ _ _ hs _ hv _).mono ?_
        rintro e w' ⟨rfl, hb'⟩
        go_wp2
        go_ret
        exact ⟨ret_bool (by rw [reportB_eq, allTo_not hlt (by simp [atB, HX.out, hv])]; rfl), bth hb hb'⟩
      · go_wp2_with fail
        refine (l26One_is _ _ _ _ _ hs _ hv _).mono ?_
        rintro e w' ⟨rfl, hb'⟩
        go_wp2
        go_roundw
        case rel => exact ⟨k + 1, by omega, by go_num, allTo_go HL.out (by simp [atB, HX.out, hv]), bth hb hb'⟩
        case measure => simp [intOf]; omega
    · obtain rfl : k = xs.length := by omega
      go_wp2
      go_ret
      exact ⟨ret_bool (by rw [reportB_eq, HL.out]; simp; omega), hb⟩
set_option maxHeartbeats 1000000 in
set_option maxRecDepth 100000 in
theorem indexFunc_Res (A : Option Addr) (c : Nat) (xs : List Res) (hn : xs.length ≤ 1048576) (f : FuncId) (cv : Array Value) (hcall : ∀ args W, (callFunc f args).run Tryd.prog W = .ok (.enter f args) W) (p : Res → Bool) (v : Int) (hv : idxB p xs = v) (w : World) (hR : Rds 5 Res.cells w A xs)
    (hf : ∀ x, x ∈ xs → ∀ W, Below w.heap.size w W → Calls Tryd.prog f (#[.agg #[.string x.motion, .int .i64 x.need, .int .i64 x.yes, .int .i64 x.no, .int .i64 x.abst]] ++ cv) W fun e w' => e = .returned (.bool (p x)) ∧ Below W.heap.size W w') :
  Calls Tryd.prog 105 #[.slice A xs.length c, .func (.func f) #[] cv] w fun e w' => e = .returned (.int .i64 v) ∧ Below w.heap.size w w' := by
  subst hv
  have HF := Lib.hid hf; clear hf
  go_enter Tryd.func105, Tryd.ntmps105
  go_wp2
  go_loopw [8] (fun i wr => ∃ k : Nat, k ≤ xs.length ∧ i = .int .i64 k ∧ allTo (fun i => !atB p xs i) k = true ∧ Below w.heap.size w wr) (fun i _ => xs.length - (intOf i).toNat)
  case atStart => exact ⟨0, Nat.zero_le _, rfl, rfl, Below.refl _ _⟩
  case round =>
    obtain ⟨k, hk, rfl, hl, hb⟩ := hrel
    have HL := Lib.hid hl; clear hl
    by_cases hlt : k < xs.length
    · obtain ⟨b, off, x, rfl, hbl, hx, hcx⟩ := hR.at_ hb hlt
      have HF' := Lib.hid (HF.out x (List.mem_of_getElem? hx))
      obtain ⟨m, nd, y, n, a, hs⟩ := x
      have f0 := hcx 0 _ rfl
      have f1 := hcx 1 _ rfl
      have f2 := hcx 2 _ rfl
      have f3 := hcx 3 _ rfl
      have f4 := hcx 4 _ rfl
      simp only [Nat.add_zero] at f0
      have g0 := f0 (Kin.self _)
      have g1 := f1 (Kin.self _)
      have g2 := f2 (Kin.self _)
      have g3 := f3 (Kin.self _)
      have g4 := f4 (Kin.self _)
      simp only [Kin.self] at g0
      simp only [Kin.self] at g1
      simp only [Kin.self] at g2
      simp only [Kin.self] at g3
      simp only [Kin.self] at g4
      have HX := Lib.hid hx; clear hx hcx
      go_wp2_with fail
      refine (HF'.out _ hb).mono ?_
      rintro e w' ⟨rfl, hb'⟩
      cases hp : p ⟨m, nd, y, n, a, hs⟩
      · go_wp2
        go_roundw
        case rel => exact ⟨k + 1, by omega, by go_num, allTo_go HL.out (by simp [atB, HX.out, hp]), bth hb hb'⟩
        case measure => simp [intOf]; omega
      · go_wp2
        go_ret
        exact ⟨ret_int (idxB_found hlt HL.out (by simp [atB, HX.out, hp])).symm, bth hb hb'⟩
    · obtain rfl : k = xs.length := by omega
      go_wp2
      go_ret
      exact ⟨ret_int (idxB_none HL.out).symm, hb⟩
theorem containsFunc_Res (A : Option Addr) (c : Nat) (xs : List Res) (hn : xs.length ≤ 1048576) (f : FuncId) (cv : Array Value) (hcall : ∀ args W, (callFunc f args).run Tryd.prog W = .ok (.enter f args) W) (p : Res → Bool) (v : Bool) (hv : xs.any p = v) (w : World) (hR : Rds 5 Res.cells w A xs)
    (hf : ∀ x, x ∈ xs → ∀ W, Below w.heap.size w W → Calls Tryd.prog f (#[.agg #[.string x.motion, .int .i64 x.need, .int .i64 x.yes, .int .i64 x.no, .int .i64 x.abst]] ++ cv) W fun e w' => e = .returned (.bool (p x)) ∧ Below W.heap.size W w') :
  Calls Tryd.prog 86 #[.slice A xs.length c, .func (.func f) #[] cv] w fun e w' => e = .returned (.bool v) ∧ Below w.heap.size w w' := by
  subst hv
  have HF := Lib.hid hf; clear hf
  have hg := idxB_ge p xs
  have HG := Lib.hid hg; clear hg
  go_enter Tryd.func86, Tryd.ntmps86
  go_wp2_with fail
  refine (indexFunc_Res A c xs hn f cv hcall p _ rfl _ hR HF.out).mono ?_
  rintro e w' ⟨rfl, hb⟩
  go_wp2
  go_ret
  exact ⟨ret_bool HG.out, hb⟩
theorem isReportF_is (m : ByteArray) (nd y n a : Int) (hm : m.size ≤ maxLen) (v : Bool) (hv : (!resB ⟨m, nd, y, n, a, hm⟩) = v) (w : World) :
  Calls Tryd.prog 87 #[.agg #[.string m, .int .i64 nd, .int .i64 y, .int .i64 n, .int .i64 a]] w fun e w' => e = .returned (.bool v) ∧ Below w.heap.size w w' := by
  subst hv
  go_enter Tryd.func87, Tryd.ntmps87
  go_wp2_with fail
  refine (isResult_is _ _ _ _ _ hm _ rfl _).mono ?_
  rintro e w' ⟨rfl, hb⟩
  go_wp2
  go_ret
  exact ⟨rfl, bth (bl1 _ _) hb⟩
theorem isReport_is (A : Option Addr) (c : Nat) (xs : List Res) (hn : xs.length ≤ 1048576) (v : Bool) (hv : reportB xs = v) (w : World) (hR : Rds 5 Res.cells w A xs) :
  Calls Tryd.prog 49 #[.slice A xs.length c] w fun e w' => e = .returned (.bool v) ∧ Below w.heap.size w w' := by
  subst hv
  by_cases hl : xs.length ≤ 12
  · go_enter Tryd.func49, Tryd.ntmps49
    go_wp2_with fail
    refine (containsFunc_Res A c xs hn _ #[] (run_enter Tryd.func87 (by kernel_rfl) (by kernel_rfl)) (fun r => !resB r) _ rfl _ hR (fun x _ W _ => isReportF_is _ _ _ _ _ x.ok _ rfl W)).mono ?_
    rintro e w' ⟨rfl, hb⟩
    go_wp2
    go_ret
    exact ⟨ret_bool (by rw [reportB]; simp [hl]), hb⟩
  · go_enter Tryd.func49, Tryd.ntmps49
    go_wp2
    go_ret
    exact ⟨ret_bool (by rw [reportB]; simp [hl]), Below.refl _ _⟩
def absI (n : Int) : Int := if n < 0 then -n else n
def Res.own (r : Res) : Int := r.yes + r.no + r.abst
def Res.gap (r : Res) : Int := absI (r.yes - r.no)
def gtr (xs : List Res) : Nat → Int × Int
  | 0 => (0, -1)
  | k + 1 => match xs[k]? with | some r => if (gtr xs k).2 < r.own then ((k : Int), r.own) else gtr xs k | none => gtr xs k
def gtOut (xs : List Res) : Value := if reportB xs && !xs.isEmpty then .tuple #[.int .i64 (gtr xs xs.length).1, .int .i64 (gtr xs xs.length).2, .bool true] else .tuple #[.int .i64 0, .int .i64 0, .bool false]
def cls (xs : List Res) : Nat → Nat
  | 0 => 0
  | k + 1 => match xs[k]?, xs[cls xs k]? with | some r, some q => if r.gap < q.gap then k else cls xs k | _, _ => cls xs k
theorem cls_le (xs : List Res) : ∀ k, cls xs k ≤ k ∧ (0 < k → cls xs k < k)
  | 0 => ⟨Nat.le_refl _, fun h => absurd h (Nat.lt_irrefl _)⟩
  | k + 1 => by
    have := (cls_le xs k).1
    refine ⟨?_, fun _ => ?_⟩
    all_goals
      unfold cls
      split
      · split <;> omega
      · omega
def clsOut (xs : List Res) : Value := if reportB xs && !xs.isEmpty then .tuple #[.int .i64 (cls xs xs.length), .bool true] else .tuple #[.int .i64 0, .bool false]
set_option maxHeartbeats 1000000 in
theorem greatestTurnout_is (A : Option Addr) (c : Nat) (xs : List Res) (hn : xs.length ≤ 1048576) (v : Value) (hv : gtOut xs = v) (w : World) (hR : Rds 5 Res.cells w A xs) :
  Calls Tryd.prog 31 #[.slice A xs.length c] w fun e w' => e = .returned v ∧ Below w.heap.size w w' := by
  subst hv
  cases hr : reportB xs
  · go_enter Tryd.func31, Tryd.ntmps31
    go_wp2_with fail
    refine (isReport_is A c xs hn _ hr _ hR).mono ?_
    rintro e w1 ⟨rfl, hb1⟩
    go_wp2
    go_ret3
    exact ⟨by simp [gtOut, hr], hb1⟩
  by_cases h0 : xs.length = 0
  · have h0' : ((xs.length : Int) == 0) = true := beq_iff_eq.2 (by omega)
    have HN := Lib.hid h0; clear h0
    go_enter Tryd.func31, Tryd.ntmps31
    go_wp2_with fail
    refine (isReport_is A c xs hn _ hr _ hR).mono ?_
    rintro e w1 ⟨rfl, hb1⟩
    go_wp2
    go_ret3
    have := List.length_eq_zero_iff.1 HN.out
    exact ⟨by simp [gtOut, this], hb1⟩
  · have h0' : ((xs.length : Int) == 0) = false := beq_eq_false_iff_ne.2 (by omega)
    have hne : xs.isEmpty = false := by cases xs <;> simp at *
    have HN := Lib.hid hne; clear hne
    go_enter Tryd.func31, Tryd.ntmps31
    go_wp2_with fail
    refine (isReport_is A c xs hn _ hr _ hR).mono ?_
    rintro e w1 ⟨rfl, hb1⟩
    have hR1 := hR.below hb1
    go_wp2
    go_loopw [5, 6, 20] (fun b m i wr => ∃ k : Nat, k ≤ xs.length ∧ i = .int .i64 k ∧ b = .int .i64 (gtr xs k).1 ∧ m = .int .i64 (gtr xs k).2 ∧ Below w1.heap.size w1 wr) (fun _ _ i _ => xs.length - (intOf i).toNat)
    case atStart => exact ⟨0, Nat.zero_le _, rfl, rfl, rfl, Below.refl _ _⟩
    case round =>
      obtain ⟨k, hk, rfl, rfl, rfl, hb⟩ := hrel
      by_cases hlt : k < xs.length
      · obtain ⟨b, off, x, rfl, hbl, hx, hcx⟩ := hR1.at_ hb hlt
        have hv := reportB_at hr hx
        obtain ⟨m, nd, y, n, a, hs⟩ := x
        obtain ⟨t1, t2, t3, t4, t5, t6, _, _⟩ := resB_bd hv
        have f0 := hcx 0 _ rfl
        have f1 := hcx 1 _ rfl
        have f2 := hcx 2 _ rfl
        have f3 := hcx 3 _ rfl
        have f4 := hcx 4 _ rfl
        simp only [Nat.add_zero] at f0
        have g0 := f0 (Kin.self _)
        have g1 := f1 (Kin.self _)
        have g2 := f2 (Kin.self _)
        have g3 := f3 (Kin.self _)
        have g4 := f4 (Kin.self _)
        simp only [Kin.self] at g0
        simp only [Kin.self] at g1
        simp only [Kin.self] at g2
        simp only [Kin.self] at g3
        simp only [Kin.self] at g4
        have HX := Lib.hid hx; clear hx hcx hv
        have hstep : gtr xs (k + 1) = if (gtr xs k).2 < y + n + a then ((k : Int), y + n + a) else gtr xs k := by rw [gtr, HX.out]; rfl
        have HS := Lib.hid hstep; clear hstep
        by_cases hc : (gtr xs k).2 < y + n + a
        · go_wp2
          go_roundw
          case rel => exact ⟨k + 1, by omega, by go_num, by rw [HS.out, if_pos (by omega)], by rw [HS.out, if_pos (by omega)], bth hb (bl1 _ _)⟩
          case measure => simp [intOf]; omega
        · go_wp2
          go_roundw
          case rel => exact ⟨k + 1, by omega, by go_num, by rw [HS.out, if_neg (by omega)], by rw [HS.out, if_neg (by omega)], bth hb (bl1 _ _)⟩
          case measure => simp [intOf]; omega
      · obtain rfl : k = xs.length := by omega
        go_wp2
        go_ret3
        exact ⟨by simp [gtOut, hr, HN.out], bth hb1 hb⟩
set_option maxHeartbeats 1000000 in
theorem sGreatestTurnout_is (A : Option Addr) (c : Nat) (xs : List Res) (hn : xs.length ≤ 1048576) (v : Value) (hv : gtOut xs = v) (w : World) (hR : Rds 5 Res.cells w A xs) :
  Calls Tryd.prog 32 #[.slice A xs.length c] w fun e w' => e = .returned v ∧ Below w.heap.size w w' := by
  subst hv
  cases hr : reportB xs
  · go_enter Tryd.func32, Tryd.ntmps32
    go_wp2_with fail
    refine (l26Good_is A c xs hn _ hr _ hR).mono ?_
    rintro e w1 ⟨rfl, hb1⟩
    go_wp2
    go_ret3
    exact ⟨by simp [gtOut, hr], hb1⟩
  by_cases h0 : xs.length = 0
  · have h0' : ((xs.length : Int) == 0) = true := beq_iff_eq.2 (by omega)
    have HN := Lib.hid h0; clear h0
    go_enter Tryd.func32, Tryd.ntmps32
    go_wp2_with fail
    refine (l26Good_is A c xs hn _ hr _ hR).mono ?_
    rintro e w1 ⟨rfl, hb1⟩
    go_wp2
    go_ret3
    have := List.length_eq_zero_iff.1 HN.out
    exact ⟨by simp [gtOut, this], hb1⟩
  · have h0' : ((xs.length : Int) == 0) = false := beq_eq_false_iff_ne.2 (by omega)
    have hne : xs.isEmpty = false := by cases xs <;> simp at *
    have HN := Lib.hid hne; clear hne
    go_enter Tryd.func32, Tryd.ntmps32
    go_wp2_with fail
    refine (l26Good_is A c xs hn _ hr _ hR).mono ?_
    rintro e w1 ⟨rfl, hb1⟩
    have hR1 := hR.below hb1
    go_wp2
    go_loopw [5, 6, 7] (fun b m i wr => ∃ k : Nat, k ≤ xs.length ∧ i = .int .i64 k ∧ b = .int .i64 (gtr xs k).1 ∧ m = .int .i64 (gtr xs k).2 ∧ Below w1.heap.size w1 wr) (fun _ _ i _ => xs.length - (intOf i).toNat)
    case atStart => exact ⟨0, Nat.zero_le _, rfl, rfl, rfl, Below.refl _ _⟩
    case round =>
      obtain ⟨k, hk, rfl, rfl, rfl, hb⟩ := hrel
      by_cases hlt : k < xs.length
      · obtain ⟨b, off, x, rfl, hbl, hx, hcx⟩ := hR1.at_ hb hlt
        have hv := reportB_at hr hx
        obtain ⟨m, nd, y, n, a, hs⟩ := x
        obtain ⟨t1, t2, t3, t4, t5, t6, _, _⟩ := resB_bd hv
        have f0 := hcx 0 _ rfl
        have f1 := hcx 1 _ rfl
        have f2 := hcx 2 _ rfl
        have f3 := hcx 3 _ rfl
        have f4 := hcx 4 _ rfl
        simp only [Nat.add_zero] at f0
        have HX := Lib.hid hx; clear hx hcx hv
        have hstep : gtr xs (k + 1) = if (gtr xs k).2 < y + n + a then ((k : Int), y + n + a) else gtr xs k := by rw [gtr, HX.out]; rfl
        have HS := Lib.hid hstep; clear hstep
        by_cases hc : (gtr xs k).2 < y + n + a
        · go_wp2
          refine wp_region_kin (by kernel_rfl) (by kernel_rfl) ?_
          repeat (go_big_quiet_step ((fail)))
          refine wpQuiet_nil ?_
          intro K
          go_wp2
          go_roundw
          case rel => exact ⟨k + 1, by omega, by go_num, by rw [HS.out, if_pos (by omega)], by rw [HS.out, if_pos (by omega)], bth hb K.below⟩
          case measure => simp [intOf]; omega
        · go_wp2
          refine wp_region_kin (by kernel_rfl) (by kernel_rfl) ?_
          repeat (go_big_quiet_step ((fail)))
          refine wpQuiet_nil ?_
          intro K
          go_wp2
          go_roundw
          case rel => exact ⟨k + 1, by omega, by go_num, by rw [HS.out, if_neg (by omega)], by rw [HS.out, if_neg (by omega)], bth hb K.below⟩
          case measure => simp [intOf]; omega
      · obtain rfl : k = xs.length := by omega
        go_wp2
        go_ret3
        exact ⟨by simp [gtOut, hr, HN.out], bth hb1 hb⟩
end Go.Proofs.YtbnncgahepcfnaaDoor
/- Marks in slices of results. -/
namespace Go.Proofs.YtbnncgahepcfnaaDoor
open Go.RowKit Go.G9
def patMotionResult (q : Int) : List Value := [.string (markS (q).toNat), .int .i64 (q + 1), .int .i64 (q + 1 + 1), .int .i64 (q + 1 + 1 + 1), .int .i64 (q + 1 + 1 + 1 + 1)]
theorem patMotionResult_len (q : Int) : (patMotionResult q).length = 5 := rfl
set_option maxHeartbeats 4000000 in
set_option maxRecDepth 100000 in
theorem mkMotionResultS_is (B : Nat) (A : Option Addr) (c : Nat) (xs : List Res) (hn : xs.length ≤ 1048576) (m : Int) (h0 : 0 < m) (h1 : m ≤ 100000000) (w : World) (hO : OwnV B 31 5 Res.cells w (.slice A xs.length c) xs) :
  Calls Tryd.prog 41 #[.slice A xs.length c, .int .i64 m] w fun e w' => e = .returned (.int .i64 (m + 5 * xs.length)) ∧ OwnV B 31 5 patMotionResult w' (.slice A xs.length c) (mks m 5 xs.length) ∧ w.grownBy w' (Value.slice A xs.length c).ownBlock := by
  by_cases hz : xs.length = 0
  · have hx0 : xs = [] := List.length_eq_zero_iff.1 hz
    subst hx0
    clear hz
    have hO' : OwnV B 31 5 patMotionResult w (.slice A 0 c) (mks m 5 0) := hO.empty
    have HO := Lib.hid hO'; clear hO hO'
    go_enter Tryd.func41, Tryd.ntmps41
    go_wp2
    go_loopw [1, 5] (fun mv i wr => mv = .int .i64 m ∧ i = .int .i64 0 ∧ wr = w) (fun _ _ _ => 0)
    case atStart => exact ⟨rfl, rfl, rfl⟩
    case round =>
      obtain ⟨rfl, rfl, rfl⟩ := hrel
      go_wp2
      go_ret
      exact ⟨by simp, by simpa using HO.out, grown_refl _ _⟩
  obtain ⟨g, cap, cs0, hve, hB, hbk, hnc, hcm, hcs⟩ := hO.block (by omega)
  injection hve with hve1 _ hve2
  subst hve1 hve2
  have HC0 := Lib.hid hcs; have HB0 := Lib.hid hbk
  clear hcs hbk hO hz
  go_enter Tryd.func41, Tryd.ntmps41
  go_wp2
  go_loopw [1, 5] (fun mv i wr => ∃ (k : Nat) (q : Int) (cs : Array Value), k ≤ xs.length ∧ i = .int .i64 k ∧ mv = .int .i64 q ∧ q = m + 5 * k ∧ Blk wr g 31 cs ∧ cs.size = c * 5 ∧ Filled 5 patMotionResult (mks m 5 xs.length) k cs ∧ w.grownBy wr (some g)) (fun _ i _ => xs.length - (intOf i).toNat)
  case atStart => exact ⟨0, m, cs0, Nat.zero_le _, rfl, rfl, by simp, HB0.out, HC0.out, Filled.zero, grown_refl _ _⟩
  case round =>
    obtain ⟨k, q, cs, hk, rfl, rfl, hq, hBK, hsz, hF, hg⟩ := hrel
    have hq1 : 0 < q := by omega
    have hq2 : q ≤ 200000000 := by omega
    have HQ := Lib.hid hq; have HSZ := Lib.hid hsz; have HF := Lib.hid hF; have HG := Lib.hid hg
    clear hq hsz hF hg
    by_cases hlt : k < xs.length
    · have hbl := hBK.lt
      have hx : (mks m 5 xs.length)[k]? = some q := by rw [mks_get hlt, HQ.out]
      have HX := Lib.hid hx; clear hx
      go_wp2_with fail
      refine (markTextI_is (q) (by omega) (by omega) _).mono ?_
      rintro e w1 ⟨rfl, hb1⟩
      have hBK1 : Blk w1 g 31 cs := hBK.below hb1 (by simpa using hbl)
      have hbl1 : g < w1.heap.size := hBK1.lt
      replace hbl := hbl1
      obtain ⟨v0, c0⟩ := hBK1.some_ (k * 5) (by have hh := HSZ.out; (try simp only [size_setMany]); omega)
      have z0 := hBK1.frozen (k * 5)
      obtain ⟨v1, c1⟩ := hBK1.some_ (k * 5 + 1) (by have hh := HSZ.out; (try simp only [size_setMany]); omega)
      have z1 := hBK1.frozen (k * 5 + 1)
      obtain ⟨v2, c2⟩ := hBK1.some_ (k * 5 + 2) (by have hh := HSZ.out; (try simp only [size_setMany]); omega)
      have z2 := hBK1.frozen (k * 5 + 2)
      obtain ⟨v3, c3⟩ := hBK1.some_ (k * 5 + 3) (by have hh := HSZ.out; (try simp only [size_setMany]); omega)
      have z3 := hBK1.frozen (k * 5 + 3)
      obtain ⟨v4, c4⟩ := hBK1.some_ (k * 5 + 4) (by have hh := HSZ.out; (try simp only [size_setMany]); omega)
      have z4 := hBK1.frozen (k * 5 + 4)
      go_wp2
      go_roundw
      case rel =>
        have hfin : Go.G9.setMany cs (k * 5) [.string (markS (q).toNat), .int .i64 (q + 1), .int .i64 (q + 1 + 1), .int .i64 (q + 1 + 1 + 1), .int .i64 (q + 1 + 1 + 1 + 1)] = Go.G9.setMany cs (k * 5) (patMotionResult q) := by first | exact Go.G9.setMany_one cs _ _ _ | rfl
        refine ⟨k + 1, _, Go.G9.setMany cs (k * 5) [.string (markS (q).toNat), .int .i64 (q + 1), .int .i64 (q + 1 + 1), .int .i64 (q + 1 + 1 + 1), .int .i64 (q + 1 + 1 + 1 + 1)], by omega, by go_num, rfl, by have := HQ.out; omega, ?_, ?_, ?_, (grown_set (grown_set (grown_set (grown_set (grown_set (grown_tr HG.out (below_grown hb1 _)) _) _) _) _) _)⟩
        · exact Blk.setMany (k * 5) [.string (markS (q).toNat), .int .i64 (q + 1), .int .i64 (q + 1 + 1), .int .i64 (q + 1 + 1 + 1), .int .i64 (q + 1 + 1 + 1 + 1)] hBK1
        · rw [hfin, size_setMany, HSZ.out]
        · rw [hfin]; have h := HF.out.put HX.out (by rw [HSZ.out, patMotionResult_len]; omega); exact h
      case measure => simp [intOf]; omega
    · obtain rfl : k = xs.length := by omega
      go_wp2
      go_ret
      refine ⟨ret_int (by have := HQ.out; omega), ?_, HG.out⟩
      have h := OwnV.ofBlk (B := B) (xs := mks m 5 xs.length) hBK hB (by rw [mks_len]; exact hnc) hcm HSZ.out (fun i x hx => HF.out i x (by have := (List.getElem?_eq_some_iff.1 hx).1; rwa [mks_len] at this) hx)
      rw [mks_len] at h
      exact h
set_option maxHeartbeats 4000000 in
set_option maxRecDepth 100000 in
theorem hdMotionResultS_is (A : Option Addr) (c n : Nat) (hn : n ≤ 1048576) (m : Int) (h0 : 0 < m) (h1 : m ≤ 100000000) (w : World) (hR : Rds 5 patMotionResult w A (mks m 5 n)) :
  Calls Tryd.prog 42 #[.slice A n c, .int .i64 m] w fun e w' => e = .returned (.int .i64 (m + 5 * n)) ∧ Below w.heap.size w w' := by
  go_enter Tryd.func42, Tryd.ntmps42
  go_wp2
  go_loopw [1, 5] (fun mv i wr => ∃ (k : Nat) (q : Int), k ≤ n ∧ i = .int .i64 k ∧ mv = .int .i64 q ∧ q = m + 5 * k ∧ Below w.heap.size w wr) (fun _ i _ => n - (intOf i).toNat)
  case atStart => exact ⟨0, m, Nat.zero_le _, rfl, rfl, by simp, Below.refl _ _⟩
  case round =>
    obtain ⟨k, q, hk, rfl, rfl, hq, hb⟩ := hrel
    have hq1 : 0 < q := by omega
    have hq2 : q ≤ 200000000 := by omega
    have HQ := Lib.hid hq; clear hq
    by_cases hlt : k < n
    · obtain ⟨b, off, x, rfl, hbl, hx, hcx⟩ := hR.at_ hb (k := k) (by rw [mks_len]; exact hlt)
      have hxq : x = q := by rw [mks_get hlt] at hx; rw [HQ.out]; exact (Option.some.inj hx).symm
      subst hxq
      have f0 := hcx 0 _ rfl
      have f1 := hcx 1 _ rfl
      have f2 := hcx 2 _ rfl
      have f3 := hcx 3 _ rfl
      have f4 := hcx 4 _ rfl
      simp only [Nat.add_zero] at f0
      clear hx hcx
      have g0 := f0 (Kin.self _)
      have g1 := f1 (Kin.self _)
      have g2 := f2 (Kin.self _)
      have g3 := f3 (Kin.self _)
      have g4 := f4 (Kin.self _)
      simp only [Kin.self] at g0
      simp only [Kin.self] at g1
      simp only [Kin.self] at g2
      simp only [Kin.self] at g3
      simp only [Kin.self] at g4
      go_wp2
      refine wp_region_kin (by kernel_rfl) (by kernel_rfl) ?_
      repeat (go_big_quiet_step (((go_at_call 80; exact Kin.call _ (by first | exact Nat.le_refl _ | omega) (markTextI_is (x) (by omega) (by omega) _)))))
      refine wpQuiet_nil ?_
      intro K1
      clear g0 g1 g2 g3 g4
      replace hb := bth hb K1.below
      replace f0 := fun K => f0 (Kin.drop K K1.below)
      have g0 := f0 (Kin.self _)
      simp only [Kin.self, Kin.drop] at f0 g0
      replace f1 := fun K => f1 (Kin.drop K K1.below)
      have g1 := f1 (Kin.self _)
      simp only [Kin.self, Kin.drop] at f1 g1
      replace f2 := fun K => f2 (Kin.drop K K1.below)
      have g2 := f2 (Kin.self _)
      simp only [Kin.self, Kin.drop] at f2 g2
      replace f3 := fun K => f3 (Kin.drop K K1.below)
      have g3 := f3 (Kin.self _)
      simp only [Kin.self, Kin.drop] at f3 g3
      replace f4 := fun K => f4 (Kin.drop K K1.below)
      have g4 := f4 (Kin.self _)
      simp only [Kin.self, Kin.drop] at f4 g4
      go_wp2
      go_roundw
      case rel => exact ⟨k + 1, _, by omega, by go_num, rfl, by have := HQ.out; omega, hb⟩
      case measure => simp [intOf]; omega
    · obtain rfl : k = n := by omega
      go_wp2
      go_ret
      exact ⟨ret_int (by have := HQ.out; omega), hb⟩
end Go.Proofs.YtbnncgahepcfnaaDoor
/- Reports: which outcomes failed by need alone. -/
namespace Go.Proofs.YtbnncgahepcfnaaDoor
open Go.RowKit Go.G9
def Res.ado (r : Res) : Bool := adoB r.need r.yes r.no
def obnP (r : Res) : Bool := !r.ado && decide (r.no < r.yes)
def obn (xs : List Res) : Nat → List Int
  | 0 => []
  | k + 1 => match xs[k]? with | some r => if obnP r then obn xs k ++ [(k : Int)] else obn xs k | none => obn xs k
theorem obn_len (xs : List Res) : ∀ k, (obn xs k).length ≤ k
  | 0 => Nat.le_refl _
  | k + 1 => by
    have := obn_len xs k
    unfold obn
    split
    · split <;> simp <;> omega
    · omega
def obnL (xs : List Res) : List Int := if reportB xs then obn xs xs.length else []
theorem adopted_is (m : ByteArray) (nd y n a : Int) (h : 0 ≤ y ∧ y ≤ 1000 ∧ 0 ≤ n ∧ n ≤ 1000) (v : Bool) (hv : adoB nd y n = v) (w : World) :
  Calls Tryd.prog 54 #[.agg #[.string m, .int .i64 nd, .int .i64 y, .int .i64 n, .int .i64 a]] w fun e w' => e = .returned (.bool v) ∧ Below w.heap.size w w' := by
  go_enter Tryd.func54, Tryd.ntmps54
  go_wp2_with (go_at_call 63; refine (isAdopted_is _ _ _ (by omega) (by omega) (by omega) (by omega) _ hv _).mono ?_; rintro e w' ⟨rfl, rfl⟩)
  go_ret
  exact ⟨rfl, bl1 _ _⟩
theorem l11Adopted_is (nd y n a : Int) (h : 0 ≤ y ∧ y ≤ 1000 ∧ 0 ≤ n ∧ n ≤ 1000) (v : Bool) (hv : adoB nd y n = v) (w : World) :
  Calls Tryd.prog 88 #[.int .i64 nd, .agg #[.int .i64 y, .int .i64 n, .int .i64 a]] w fun e w' => e = .returned (.bool v) ∧ Below w.heap.size w w' := by
  go_enter Tryd.func88, Tryd.ntmps88
  go_wp2_with (go_at_call 106; refine (l11Enough_is _ _ _ (by omega) (by omega) (by omega) (by omega) _ hv _).mono ?_; rintro e w' ⟨rfl, rfl⟩)
  go_ret
  exact ⟨rfl, bl1 _ _⟩
theorem l26Adopted_is (m : ByteArray) (nd y n a : Int) (h : 0 ≤ y ∧ y ≤ 1000 ∧ 0 ≤ n ∧ n ≤ 1000) (v : Bool) (hv : adoB nd y n = v) (w : World) :
  Calls Tryd.prog 51 #[.agg #[.string m, .int .i64 nd, .int .i64 y, .int .i64 n, .int .i64 a]] w fun e w' => e = .returned (.bool v) ∧ Below w.heap.size w w' := by
  go_enter Tryd.func51, Tryd.ntmps51
  go_wp2_with (go_at_call 88; refine (l11Adopted_is nd y n a h _ hv _).mono ?_; rintro e w' ⟨rfl, hb'⟩)
  go_ret
  exact ⟨rfl, bth (bl1 _ _) hb'⟩
set_option maxHeartbeats 2000000 in
set_option maxRecDepth 100000 in
theorem onlyByNeed_is (A : Option Addr) (c : Nat) (xs : List Res) (hn : xs.length ≤ 1048576) (w : World) (hR : Rds 5 Res.cells w A xs) :
  Calls Tryd.prog 27 #[.slice A xs.length c] w fun e w' => ∃ A c, e = .returned (.tuple #[.slice A (obnL xs).length c, .bool (reportB xs)]) ∧ OwnV w.heap.size 3 1 intC w' (.slice A (obnL xs).length c) (obnL xs) ∧ Below w.heap.size w w' := by
  obtain ⟨i0, hi, hz0, hz1, hz2⟩ := info_parts info_int
  cases hr : reportB xs
  · have h2 : obnL xs = [] := by simp [obnL, hr]
    rw [h2]
    go_enter Tryd.func27, Tryd.ntmps27
    go_wp2_with fail
    refine (isReport_is A c xs hn _ hr _ hR).mono ?_
    rintro e w1 ⟨rfl, hb1⟩
    go_wp2
    go_ret2
    exact ⟨none, 0, rfl, OwnV.nil, hb1⟩
  · have h2 : obnL xs = obn xs xs.length := by simp [obnL, hr]
    have H2 := Lib.hid h2; clear h2
    have hl := reportB_len hr
    go_enter Tryd.func27, Tryd.ntmps27
    go_wp2_with fail
    refine (isReport_is A c xs hn _ hr _ hR).mono ?_
    rintro e w1 ⟨rfl, hb1⟩
    have hR1 := hR.below hb1
    go_wp2
    go_loopw [4, 13] (fun v i wr => ∃ k : Nat, k ≤ xs.length ∧ i = .int .i64 k ∧ OwnV w1.heap.size 3 1 intC wr v (obn xs k) ∧ Below w1.heap.size w1 wr) (fun _ i _ => xs.length - (intOf i).toNat)
    case atStart => exact ⟨0, Nat.zero_le _, rfl, OwnV.made w1 (Nat.le_refl _) _, bl1 _ _⟩
    case round =>
      obtain ⟨k, hk, rfl, hO, hb⟩ := hrel
      by_cases hlt : k < xs.length
      · obtain ⟨b, off, x, rfl, hbl, hx, hcx⟩ := hR1.at_ hb hlt
        have hv := reportB_at hr hx
        obtain ⟨m, nd, y, n, a, hs⟩ := x
        obtain ⟨t1, t2, t3, t4, t5, t6, _, _⟩ := resB_bd hv
        have f0 := hcx 0 _ rfl
        have f1 := hcx 1 _ rfl
        have f2 := hcx 2 _ rfl
        have f3 := hcx 3 _ rfl
        have f4 := hcx 4 _ rfl
        simp only [Nat.add_zero] at f0
        have g0 := f0 (Kin.self _)
        have g1 := f1 (Kin.self _)
        have g2 := f2 (Kin.self _)
        have g3 := f3 (Kin.self _)
        have g4 := f4 (Kin.self _)
        simp only [Kin.self] at g0
        simp only [Kin.self] at g1
        simp only [Kin.self] at g2
        simp only [Kin.self] at g3
        simp only [Kin.self] at g4
        have hstep : obn xs (k + 1) = if obnP ⟨m, nd, y, n, a, hs⟩ then obn xs k ++ [(k : Int)] else obn xs k := by rw [obn, hx]
        have HS := Lib.hid hstep; clear hstep hx hcx hv
        have hml := obn_len xs k
        have HO := Lib.hid hO; clear hO
        go_wp2_with fail
        refine (adopted_is m nd y n a ⟨by omega, by omega, by omega, by omega⟩ _ rfl _).mono ?_
        rintro e w2 ⟨rfl, hb2⟩
        have hbox := Blk.below (Blk.new wr 31 #[.string m, .int .i64 nd, .int .i64 y, .int .i64 n, .int .i64 a]) hb2 (by simp)
        have hb2' := bth (bl1 wr _) hb2
        have HOK := Lib.hid (HO.out.later hb2')
        have z1 := hb.size
        have z2 := hb2'.size
        clear f0 f1 f2 f3 f4 g0 g1 g2 g3 g4
        have q0 := hbox.cell 0
        have q1 := hbox.cell 1
        have q2 := hbox.cell 2
        have q3 := hbox.cell 3
        have q4 := hbox.cell 4
        simp at q0 q1 q2 q3 q4
        cases ha : adoB nd y n <;> by_cases hyn : n < y
        all_goals first
          | (have hp : obnP ⟨m, nd, y, n, a, hs⟩ = true := by simp [obnP, Res.ado, ha, hyn]
             have HP := Lib.hid hp; clear hp
             go_wp2_with ((at_builtin; refine wpList_app rfl _ _ 44 rfl w1.heap.size 3 i0 _ 1 8 Tryd.underlying44 hi hz0 hz1 hz2 rfl (by decide) intC intC_len intC_one _ (obn xs k) rfl (HOK.out.alloc _) (some ⟨w2.heap.size, 0, none⟩) 1 [(k : Int)] rfl (Rds.one _ _) (fun h => by cases h) (by unfold maxLen; simp; omega) (by simp; omega) (by simp; omega) ?_; intro v' w4 hO4 hg4))
             have hB4 : Below w1.heap.size w1 w4 := ((bth hb hb2').alloc (by omega) _).grown hg4 (by simp; omega) (fun q hq => (HOK.out.lt q hq).1)
             go_roundw
             case rel => exact ⟨k + 1, by omega, by go_num, by rw [HS.out, if_pos HP.out]; exact hO4, hB4⟩
             case measure => simp [intOf]; omega)
          | (have hp : obnP ⟨m, nd, y, n, a, hs⟩ = false := by simp [obnP, Res.ado, ha]; try omega
             have HP := Lib.hid hp; clear hp
             go_wp2
             go_roundw
             case rel => exact ⟨k + 1, by omega, by go_num, by rw [HS.out, HP.out]; exact HOK.out, bth hb hb2'⟩
             case measure => simp [intOf]; omega)
      · obtain rfl : k = xs.length := by omega
        obtain ⟨A, c, rfl, hl, _, _⟩ := hO.form intC_len
        go_wp2
        go_ret2
        rw [H2.out]
        exact ⟨A, c, rfl, hO.base hb1.size, bth hb1 hb⟩
end Go.Proofs.YtbnncgahepcfnaaDoor
