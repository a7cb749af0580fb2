/- Reports: valid ones, the greatest turnout, the closest result. -/
import Derived.Test.YtbnncgahepcfnaaDoorRes
import Derived.Test.YtbnncgahepcfnaaDoorFind
namespace Go.Proofs.YtbnncgahepcfnaaDoor
open Go.RowKit Go.G9
theorem all_at {T : Type} (p : T → Bool) (xs : List T) : allTo (atB p xs) xs.length = xs.all p := by
  rw [Bool.eq_iff_iff, allTo_iff, List.all_eq_true]
  constructor
  · intro h x hx
    obtain ⟨i, hi⟩ := List.getElem?_of_mem hx
    have := h i (List.getElem?_eq_some_iff.1 hi).1
    simpa [atB, hi] using this
  · intro h i hi
    simp [atB, List.getElem?_eq_getElem hi, h _ (List.getElem_mem hi)]
theorem reportB_eq (xs : List Res) : reportB xs = (allTo (atB resB xs) xs.length && decide (xs.length ≤ 12)) := by
  rw [all_at, reportB, Bool.and_comm]; congr 1
  rw [Bool.eq_iff_iff]; simp
theorem reportB_at {xs : List Res} (h : reportB xs = true) {k : Nat} {r : Res} (hr : xs[k]? = some r) : resB r = true := by
  rw [reportB_eq, Bool.and_eq_true] at h
  have := allTo_iff.1 h.1 k (List.getElem?_eq_some_iff.1 hr).1
  simpa [atB, hr] using this
theorem reportB_len {xs : List Res} (h : reportB xs = true) : xs.length ≤ 12 := by
  rw [reportB_eq, Bool.and_eq_true] at h; simpa using h.2
theorem resB_bd {m : ByteArray} {nd y n a : Int} {hs : m.size ≤ maxLen} (h : resB ⟨m, nd, y, n, a, hs⟩ = true) : 0 ≤ y ∧ y ≤ 1000 ∧ 0 ≤ n ∧ n ≤ 1000 ∧ 0 ≤ a ∧ a ≤ 1000 ∧ 1 ≤ nd ∧ nd ≤ 3 := by
  simp [resB, tallyB, inB] at h; omega
theorem l26Good_is (A : Option Addr) (c : Nat) (xs : List Res) (hn : xs.length ≤ 1048576) (v : Bool) (hv : reportB xs = v) (w : World) (hR : Rds 5 Res.cells w A xs) :
  Calls Tryd.prog 48 #[.slice A xs.length c] w fun e w' => e = .returned (.bool v) ∧ Below w.heap.size w w' := by
  subst hv
  go_enter Tryd.func48, Tryd.ntmps48
  go_wp2
  go_loopw [3] (fun i wr => ∃ k : Nat, k ≤ xs.length ∧ i = .int .i64 k ∧ allTo (atB resB xs) k = true ∧ Below w.heap.size w wr) (fun i _ => xs.length - (intOf i).toNat)
  case atStart => exact ⟨0, Nat.zero_le _, rfl, rfl, Below.refl _ _⟩
  case round =>
    obtain ⟨k, hk, rfl, hl, hb⟩ := hrel
    have HL := Lib.hid hl; clear hl
    by_cases hlt : k < xs.length
    · obtain ⟨b, off, x, rfl, hbl, hx, hcx⟩ := hR.at_ hb hlt
      obtain ⟨m, nd, y, n, a, hs⟩ := x
      have f0 := hcx 0 _ rfl
      have f1 := hcx 1 _ rfl
      have f2 := hcx 2 _ rfl
      have f3 := hcx 3 _ rfl
      have f4 := hcx 4 _ rfl
      simp only [Nat.add_zero] at f0
      have g0 := f0 (Kin.self _)
      have g1 := f1 (Kin.self _)
      have g2 := f2 (Kin.self _)
      have g3 := f3 (Kin.self _)
      have g4 := f4 (Kin.self _)
      simp only [Kin.self] at g0
      simp only [Kin.self] at g1
      simp only [Kin.self] at g2
      simp only [Kin.self] at g3
      simp only [Kin.self] at g4
      have HX := Lib.hid hx; clear hx hcx
      cases hv : resB ⟨m, nd, y, n, a, hs⟩
      · go_wp2_with fail
        refine (l26One_is _ _ _ _ _ hs _ hv _).mono ?_
        rintro e w' ⟨rfl, hb'⟩
        go_wp2
        go_ret
        exact ⟨ret_bool (by rw [reportB_eq, allTo_not hlt (by simp [atB, HX.out, hv])]; rfl), bth hb hb'⟩
      · go_wp2_with fail
        refine (l26One_is _ _ _ _ _ hs _ hv _).mono ?_
        rintro e w' ⟨rfl, hb'⟩
        go_wp2
        go_roundw
        case rel => exact ⟨k + 1, by omega, by go_num, allTo_go HL.out (by simp [atB, HX.out, hv]), bth hb hb'⟩
        case measure => simp [intOf]; omega
    · obtain rfl : k = xs.length := by omega
      go_wp2
      go_ret
      exact ⟨ret_bool (by rw [reportB_eq, HL.out]; simp; omega), hb⟩
set_option maxHeartbeats 1000000 in
set_option maxRecDepth 100000 in
theorem indexFunc_Res (A : Option Addr) (c : Nat) (xs : List Res) (hn : xs.length ≤ 1048576) (f : FuncId) (cv : Array Value) (hcall : ∀ args W, (callFunc f args).run Tryd.prog W = .ok (.enter f args) W) (p : Res → Bool) (v : Int) (hv : idxB p xs = v) (w : World) (hR : Rds 5 Res.cells w A xs)
    (hf : ∀ x, x ∈ xs → ∀ W, Below w.heap.size w W → Calls Tryd.prog f (#[.agg #[.string x.motion, .int .i64 x.need, .int .i64 x.yes, .int .i64 x.no, .int .i64 x.abst]] ++ cv) W fun e w' => e = .returned (.bool (p x)) ∧ Below W.heap.size W w') :
  Calls Tryd.prog 105 #[.slice A xs.length c, .func (.func f) #[] cv] w fun e w' => e = .returned (.int .i64 v) ∧ Below w.heap.size w w' := by
  subst hv
  have HF := Lib.hid hf; clear hf
  go_enter Tryd.func105, Tryd.ntmps105
  go_wp2
  go_loopw [8] (fun i wr => ∃ k : Nat, k ≤ xs.length ∧ i = .int .i64 k ∧ allTo (fun i => !atB p xs i) k = true ∧ Below w.heap.size w wr) (fun i _ => xs.length - (intOf i).toNat)
  case atStart => exact ⟨0, Nat.zero_le _, rfl, rfl, Below.refl _ _⟩
  case round =>
    obtain ⟨k, hk, rfl, hl, hb⟩ := hrel
    have HL := Lib.hid hl; clear hl
    by_cases hlt : k < xs.length
    · obtain ⟨b, off, x, rfl, hbl, hx, hcx⟩ := hR.at_ hb hlt
      have HF' := Lib.hid (HF.out x (List.mem_of_getElem? hx))
      obtain ⟨m, nd, y, n, a, hs⟩ := x
      have f0 := hcx 0 _ rfl
      have f1 := hcx 1 _ rfl
      have f2 := hcx 2 _ rfl
      have f3 := hcx 3 _ rfl
      have f4 := hcx 4 _ rfl
      simp only [Nat.add_zero] at f0
      have g0 := f0 (Kin.self _)
      have g1 := f1 (Kin.self _)
      have g2 := f2 (Kin.self _)
      have g3 := f3 (Kin.self _)
      have g4 := f4 (Kin.self _)
      simp only [Kin.self] at g0
      simp only [Kin.self] at g1
      simp only [Kin.self] at g2
      simp only [Kin.self] at g3
      simp only [Kin.self] at g4
      have HX := Lib.hid hx; clear hx hcx
      go_wp2_with fail
      refine (HF'.out _ hb).mono ?_
      rintro e w' ⟨rfl, hb'⟩
      cases hp : p ⟨m, nd, y, n, a, hs⟩
      · go_wp2
        go_roundw
        case rel => exact ⟨k + 1, by omega, by go_num, allTo_go HL.out (by simp [atB, HX.out, hp]), bth hb hb'⟩
        case measure => simp [intOf]; omega
      · go_wp2
        go_ret
        exact ⟨ret_int (idxB_found hlt HL.out (by simp [atB, HX.out, hp])).symm, bth hb hb'⟩
    · obtain rfl : k = xs.length := by omega
      go_wp2
      go_ret
      exact ⟨ret_int (idxB_none HL.out).symm, hb⟩
theorem containsFunc_Res (A : Option Addr) (c : Nat) (xs : List Res) (hn : xs.length ≤ 1048576) (f : FuncId) (cv : Array Value) (hcall : ∀ args W, (callFunc f args).run Tryd.prog W = .ok (.enter f args) W) (p : Res → Bool) (v : Bool) (hv : xs.any p = v) (w : World) (hR : Rds 5 Res.cells w A xs)
    (hf : ∀ x, x ∈ xs → ∀ W, Below w.heap.size w W → Calls Tryd.prog f (#[.agg #[.string x.motion, .int .i64 x.need, .int .i64 x.yes, .int .i64 x.no, .int .i64 x.abst]] ++ cv) W fun e w' => e = .returned (.bool (p x)) ∧ Below W.heap.size W w') :
  Calls Tryd.prog 86 #[.slice A xs.length c, .func (.func f) #[] cv] w fun e w' => e = .returned (.bool v) ∧ Below w.heap.size w w' := by
  subst hv
  have HF := Lib.hid hf; clear hf
  have hg := idxB_ge p xs
  have HG := Lib.hid hg; clear hg
  go_enter Tryd.func86, Tryd.ntmps86
  go_wp2_with fail
  refine (indexFunc_Res A c xs hn f cv hcall p _ rfl _ hR HF.out).mono ?_
  rintro e w' ⟨rfl, hb⟩
  go_wp2
  go_ret
  exact ⟨ret_bool HG.out, hb⟩
theorem isReportF_is (m : ByteArray) (nd y n a : Int) (hm : m.size ≤ maxLen) (v : Bool) (hv : (!resB ⟨m, nd, y, n, a, hm⟩) = v) (w : World) :
  Calls Tryd.prog 87 #[.agg #[.string m, .int .i64 nd, .int .i64 y, .int .i64 n, .int .i64 a]] w fun e w' => e = .returned (.bool v) ∧ Below w.heap.size w w' := by
  subst hv
  go_enter Tryd.func87, Tryd.ntmps87
  go_wp2_with fail
  refine (isResult_is _ _ _ _ _ hm _ rfl _).mono ?_
  rintro e w' ⟨rfl, hb⟩
  go_wp2
  go_ret
  exact ⟨rfl, bth (bl1 _ _) hb⟩
theorem isReport_is (A : Option Addr) (c : Nat) (xs : List Res) (hn : xs.length ≤ 1048576) (v : Bool) (hv : reportB xs = v) (w : World) (hR : Rds 5 Res.cells w A xs) :
  Calls Tryd.prog 49 #[.slice A xs.length c] w fun e w' => e = .returned (.bool v) ∧ Below w.heap.size w w' := by
  subst hv
  by_cases hl : xs.length ≤ 12
  · go_enter Tryd.func49, Tryd.ntmps49
    go_wp2_with fail
    refine (containsFunc_Res A c xs hn _ #[] (run_enter Tryd.func87 (by kernel_rfl) (by kernel_rfl)) (fun r => !resB r) _ rfl _ hR (fun x _ W _ => isReportF_is _ _ _ _ _ x.ok _ rfl W)).mono ?_
    rintro e w' ⟨rfl, hb⟩
    go_wp2
    go_ret
    exact ⟨ret_bool (by rw [reportB]; simp [hl]), hb⟩
  · go_enter Tryd.func49, Tryd.ntmps49
    go_wp2
    go_ret
    exact ⟨ret_bool (by rw [reportB]; simp [hl]), Below.refl _ _⟩
def absI (n : Int) : Int := if n < 0 then -n else n
def Res.own (r : Res) : Int := r.yes + r.no + r.abst
def Res.gap (r : Res) : Int := absI (r.yes - r.no)
def gtr (xs : List Res) : Nat → Int × Int
  | 0 => (0, -1)
  | k + 1 => match xs[k]? with | some r => if (gtr xs k).2 < r.own then ((k : Int), r.own) else gtr xs k | none => gtr xs k
def gtOut (xs : List Res) : Value := if reportB xs && !xs.isEmpty then .tuple #[.int .i64 (gtr xs xs.length).1, .int .i64 (gtr xs xs.length).2, .bool true] else .tuple #[.int .i64 0, .int .i64 0, .bool false]
def cls (xs : List Res) : Nat → Nat
  | 0 => 0
  | k + 1 => match xs[k]?, xs[cls xs k]? with | some r, some q => if r.gap < q.gap then k else cls xs k | _, _ => cls xs k
theorem cls_le (xs : List Res) : ∀ k, cls xs k ≤ k ∧ (0 < k → cls xs k < k)
  | 0 => ⟨Nat.le_refl _, fun h => absurd h (Nat.lt_irrefl _)⟩
  | k + 1 => by
    have := (cls_le xs k).1
    refine ⟨?_, fun _ => ?_⟩
    all_goals
      unfold cls
      split
      · split <;> omega
      · omega
def clsOut (xs : List Res) : Value := if reportB xs && !xs.isEmpty then .tuple #[.int .i64 (cls xs xs.length), .bool true] else .tuple #[.int .i64 0, .bool false]
set_option maxHeartbeats 1000000 in
theorem greatestTurnout_is (A : Option Addr) (c : Nat) (xs : List Res) (hn : xs.length ≤ 1048576) (v : Value) (hv : gtOut xs = v) (w : World) (hR : Rds 5 Res.cells w A xs) :
  Calls Tryd.prog 31 #[.slice A xs.length c] w fun e w' => e = .returned v ∧ Below w.heap.size w w' := by
  subst hv
  cases hr : reportB xs
  · go_enter Tryd.func31, Tryd.ntmps31
    go_wp2_with fail
    refine (isReport_is A c xs hn _ hr _ hR).mono ?_
    rintro e w1 ⟨rfl, hb1⟩
    go_wp2
    go_ret3
    exact ⟨by simp [gtOut, hr], hb1⟩
  by_cases h0 : xs.length = 0
  · have h0' : ((xs.length : Int) == 0) = true := beq_iff_eq.2 (by omega)
    have HN := Lib.hid h0; clear h0
    go_enter Tryd.func31, Tryd.ntmps31
    go_wp2_with fail
    refine (isReport_is A c xs hn _ hr _ hR).mono ?_
    rintro e w1 ⟨rfl, hb1⟩
    go_wp2
    go_ret3
    have := List.length_eq_zero_iff.1 HN.out
    exact ⟨by simp [gtOut, this], hb1⟩
  · have h0' : ((xs.length : Int) == 0) = false := beq_eq_false_iff_ne.2 (by omega)
    have hne : xs.isEmpty = false := by cases xs <;> simp at *
    have HN := Lib.hid hne; clear hne
    go_enter Tryd.func31, Tryd.ntmps31
    go_wp2_with fail
    refine (isReport_is A c xs hn _ hr _ hR).mono ?_
    rintro e w1 ⟨rfl, hb1⟩
    have hR1 := hR.below hb1
    go_wp2
    go_loopw [5, 6, 20] (fun b m i wr => ∃ k : Nat, k ≤ xs.length ∧ i = .int .i64 k ∧ b = .int .i64 (gtr xs k).1 ∧ m = .int .i64 (gtr xs k).2 ∧ Below w1.heap.size w1 wr) (fun _ _ i _ => xs.length - (intOf i).toNat)
    case atStart => exact ⟨0, Nat.zero_le _, rfl, rfl, rfl, Below.refl _ _⟩
    case round =>
      obtain ⟨k, hk, rfl, rfl, rfl, hb⟩ := hrel
      by_cases hlt : k < xs.length
      · obtain ⟨b, off, x, rfl, hbl, hx, hcx⟩ := hR1.at_ hb hlt
        have hv := reportB_at hr hx
        obtain ⟨m, nd, y, n, a, hs⟩ := x
        obtain ⟨t1, t2, t3, t4, t5, t6, _, _⟩ := resB_bd hv
        have f0 := hcx 0 _ rfl
        have f1 := hcx 1 _ rfl
        have f2 := hcx 2 _ rfl
        have f3 := hcx 3 _ rfl
        have f4 := hcx 4 _ rfl
        simp only [Nat.add_zero] at f0
        have g0 := f0 (Kin.self _)
        have g1 := f1 (Kin.self _)
        have g2 := f2 (Kin.self _)
        have g3 := f3 (Kin.self _)
        have g4 := f4 (Kin.self _)
        simp only [Kin.self] at g0
        simp only [Kin.self] at g1
        simp only [Kin.self] at g2
        simp only [Kin.self] at g3
        simp only [Kin.self] at g4
        have HX := Lib.hid hx; clear hx hcx hv
        have hstep : gtr xs (k + 1) = if (gtr xs k).2 < y + n + a then ((k : Int), y + n + a) else gtr xs k := by rw [gtr, HX.out]; rfl
        have HS := Lib.hid hstep; clear hstep
        by_cases hc : (gtr xs k).2 < y + n + a
        · go_wp2
          go_roundw
          case rel => exact ⟨k + 1, by omega, by go_num, by rw [HS.out, if_pos (by omega)], by rw [HS.out, if_pos (by omega)], bth hb (bl1 _ _)⟩
          case measure => simp [intOf]; omega
        · go_wp2
          go_roundw
          case rel => exact ⟨k + 1, by omega, by go_num, by rw [HS.out, if_neg (by omega)], by rw [HS.out, if_neg (by omega)], bth hb (bl1 _ _)⟩
          case measure => simp [intOf]; omega
      · obtain rfl : k = xs.length := by omega
        go_wp2
        go_ret3
        exact ⟨by simp [gtOut, hr, HN.out], bth hb1 hb⟩
set_option maxHeartbeats 1000000 in
theorem sGreatestTurnout_is (A : Option Addr) (c : Nat) (xs : List Res) (hn : xs.length ≤ 1048576) (v : Value) (hv : gtOut xs = v) (w : World) (hR : Rds 5 Res.cells w A xs) :
  Calls Tryd.prog 32 #[.slice A xs.length c] w fun e w' => e = .returned v ∧ Below w.heap.size w w' := by
  subst hv
  cases hr : reportB xs
  · go_enter Tryd.func32, Tryd.ntmps32
    go_wp2_with fail
    refine (l26Good_is A c xs hn _ hr _ hR).mono ?_
    rintro e w1 ⟨rfl, hb1⟩
    go_wp2
    go_ret3
    exact ⟨by simp [gtOut, hr], hb1⟩
  by_cases h0 : xs.length = 0
  · have h0' : ((xs.length : Int) == 0) = true := beq_iff_eq.2 (by omega)
    have HN := Lib.hid h0; clear h0
    go_enter Tryd.func32, Tryd.ntmps32
    go_wp2_with fail
    refine (l26Good_is A c xs hn _ hr _ hR).mono ?_
    rintro e w1 ⟨rfl, hb1⟩
    go_wp2
    go_ret3
    have := List.length_eq_zero_iff.1 HN.out
    exact ⟨by simp [gtOut, this], hb1⟩
  · have h0' : ((xs.length : Int) == 0) = false := beq_eq_false_iff_ne.2 (by omega)
    have hne : xs.isEmpty = false := by cases xs <;> simp at *
    have HN := Lib.hid hne; clear hne
    go_enter Tryd.func32, Tryd.ntmps32
    go_wp2_with fail
    refine (l26Good_is A c xs hn _ hr _ hR).mono ?_
    rintro e w1 ⟨rfl, hb1⟩
    have hR1 := hR.below hb1
    go_wp2
    go_loopw [5, 6, 7] (fun b m i wr => ∃ k : Nat, k ≤ xs.length ∧ i = .int .i64 k ∧ b = .int .i64 (gtr xs k).1 ∧ m = .int .i64 (gtr xs k).2 ∧ Below w1.heap.size w1 wr) (fun _ _ i _ => xs.length - (intOf i).toNat)
    case atStart => exact ⟨0, Nat.zero_le _, rfl, rfl, rfl, Below.refl _ _⟩
    case round =>
      obtain ⟨k, hk, rfl, rfl, rfl, hb⟩ := hrel
      by_cases hlt : k < xs.length
      · obtain ⟨b, off, x, rfl, hbl, hx, hcx⟩ := hR1.at_ hb hlt
        have hv := reportB_at hr hx
        obtain ⟨m, nd, y, n, a, hs⟩ := x
        obtain ⟨t1, t2, t3, t4, t5, t6, _, _⟩ := resB_bd hv
        have f0 := hcx 0 _ rfl
        have f1 := hcx 1 _ rfl
        have f2 := hcx 2 _ rfl
        have f3 := hcx 3 _ rfl
        have f4 := hcx 4 _ rfl
        simp only [Nat.add_zero] at f0
        have HX := Lib.hid hx; clear hx hcx hv
        have hstep : gtr xs (k + 1) = if (gtr xs k).2 < y + n + a then ((k : Int), y + n + a) else gtr xs k := by rw [gtr, HX.out]; rfl
        have HS := Lib.hid hstep; clear hstep
        by_cases hc : (gtr xs k).2 < y + n + a
        · go_wp2
          refine wp_region_kin (by kernel_rfl) (by kernel_rfl) ?_
          repeat (go_big_quiet_step ((fail)))
          refine wpQuiet_nil ?_
          intro K
          go_wp2
          go_roundw
          case rel => exact ⟨k + 1, by omega, by go_num, by rw [HS.out, if_pos (by omega)], by rw [HS.out, if_pos (by omega)], bth hb K.below⟩
          case measure => simp [intOf]; omega
        · go_wp2
          refine wp_region_kin (by kernel_rfl) (by kernel_rfl) ?_
          repeat (go_big_quiet_step ((fail)))
          refine wpQuiet_nil ?_
          intro K
          go_wp2
          go_roundw
          case rel => exact ⟨k + 1, by omega, by go_num, by rw [HS.out, if_neg (by omega)], by rw [HS.out, if_neg (by omega)], bth hb K.below⟩
          case measure => simp [intOf]; omega
      · obtain rfl : k = xs.length := by omega
        go_wp2
        go_ret3
        exact ⟨by simp [gtOut, hr, HN.out], bth hb1 hb⟩
end Go.Proofs.YtbnncgahepcfnaaDoor
