/- Notices copied: the slice that toNoticeS makes. -/
import Derived.Test.YtbnncgahepcfnaaGreatDoorNo7
import Derived.Test.YtbnncgahepcfnaaGreatDoorNo6
import Derived.Test.YtbnncgahepcfnaaGreatDoorNo1
import Derived.Laws.CopyRow
import Derived.Deep.Cut
namespace Go.Proofs.YtbnncgahepcfnaaGreatDoor
open Go.RowKit Go.G9
theorem info_Ntc : (Tryz.prog.info? 42).map (fun i => (i.zero, i.size, i.bytes)) = some (some (.agg #[.int .i64 0, .string ⟨#[]⟩, .int .i64 0, .int .i64 0]), 4, 40) := by kernel_rfl
set_option maxHeartbeats 1000000 in
theorem l24Good_is (A : Option Addr) (c : Nat) (xs : List Ntc) (hn : xs.length ≤ 1048576) (v : Bool) (hv : noticesB xs = v) (w : World) (hR : Rds 4 Ntc.cells w A xs) :
  Calls Tryz.prog 69 #[.slice A xs.length c] w fun e w' => e = .returned (.bool v) ∧ Below w.heap.size w w' := by
  subst hv
  go_enter Tryz.func69, Tryz.ntmps69
  go_wp2
  go_loopw [3] (fun i wr => ∃ k : Nat, k ≤ xs.length ∧ i = .int .i64 k ∧ allTo (ntcStep xs) k = true ∧ Below w.heap.size w wr) (fun i _ => xs.length - (intOf i).toNat)
  case atStart => exact ⟨0, Nat.zero_le _, rfl, rfl, Below.refl _ _⟩
  case round =>
    obtain ⟨k, hk, rfl, hl, hb⟩ := hrel
    have HL := Lib.hid hl; clear hl
    by_cases hlt : k < xs.length
    · obtain ⟨b, off, x, rfl, hbl, hx, hcx⟩ := hR.at_ hb hlt
      obtain ⟨id, s, g, d, hs⟩ := x
      cases k with
      | zero =>
        have f0 := hcx 0 _ rfl
        have f1 := hcx 1 _ rfl
        have f2 := hcx 2 _ rfl
        have f3 := hcx 3 _ rfl
        simp only [Nat.zero_mul, Nat.add_zero] at f0
        simp only [Nat.zero_mul] at f1
        simp only [Nat.zero_mul] at f2
        simp only [Nat.zero_mul] at f3
        have HX := Lib.hid hx; clear hx hcx
        cases hv : noticeB ⟨id, s, g, d, hs⟩
        all_goals
          go_wp2
          refine wp_region_kin (by kernel_rfl) (by kernel_rfl) ?_
          repeat (go_big_quiet_step ((first | (go_at_call 62; exact Kin.call _ (by first | exact Nat.le_refl _ | omega) (l24One_is _ _ _ _ hs _ hv _)))))
          refine wpQuiet_nil ?_
          intro K
          go_wp2
        · go_ret
          exact ⟨ret_bool (by rw [noticesB, allTo_not hlt (by simp [ntcStep, HX.out, hv])]; rfl), bth hb K.below⟩
        · go_roundw
          case rel => exact ⟨1, by omega, by go_num, allTo_go HL.out (by simp [ntcStep, HX.out, hv]), bth hb K.below⟩
          case measure => simp [intOf]; omega
      | succ j =>
        obtain ⟨b', off', y, e', _, hy, hcy⟩ := hR.at_ hb (k := j) (by omega)
        simp only [Option.some.injEq, Addr.mk.injEq, and_true] at e'
        obtain ⟨rfl, rfl⟩ := e'
        obtain ⟨yid, ys, yg, yd, yok⟩ := y
        have f0 := hcx 0 _ rfl
        have f1 := hcx 1 _ rfl
        have f2 := hcx 2 _ rfl
        have f3 := hcx 3 _ rfl
        simp only [Nat.add_zero] at f0
        have y0 := hcy 0 _ rfl
        simp only [Nat.add_zero] at y0
        have HX := Lib.hid hx; clear hx hcx
        have HY := Lib.hid hy; clear hy hcy
        cases hv : noticeB ⟨id, s, g, d, hs⟩
        · go_wp2
          refine wp_region_kin (by kernel_rfl) (by kernel_rfl) ?_
          repeat (go_big_quiet_step ((first | (go_at_call 62; exact Kin.call _ (by first | exact Nat.le_refl _ | omega) (l24One_is _ _ _ _ hs _ hv _)))))
          refine wpQuiet_nil ?_
          intro K
          go_wp2
          go_ret
          exact ⟨ret_bool (by rw [noticesB, allTo_not hlt (by simp [ntcStep, HX.out, HY.out, hv])]; rfl), bth hb K.below⟩
        · by_cases hid : yid < id
          all_goals
            go_wp2
            refine wp_region_kin (by kernel_rfl) (by kernel_rfl) ?_
            repeat (go_big_quiet_step ((first | (go_at_call 62; exact Kin.call _ (by first | exact Nat.le_refl _ | omega) (l24One_is _ _ _ _ hs _ hv _)))))
            refine wpQuiet_nil ?_
            intro K
            go_wp2
          · go_roundw
            case rel => exact ⟨j + 1 + 1, by omega, by go_num, allTo_go HL.out (by simp [ntcStep, HX.out, HY.out, hv, hid]), bth hb K.below⟩
            case measure => simp [intOf]; omega
          · go_ret
            exact ⟨ret_bool (by rw [noticesB, allTo_not hlt (by simp [ntcStep, HX.out, HY.out, hv, hid])]; rfl), bth hb K.below⟩
    · obtain rfl : k = xs.length := by omega
      go_wp2
      go_ret
      exact ⟨ret_bool (by rw [noticesB, HL.out]; simp; omega), hb⟩
set_option maxHeartbeats 1000000 in
theorem areNotices_is (A : Option Addr) (c : Nat) (xs : List Ntc) (hn : xs.length ≤ 1048576) (v : Bool) (hv : noticesB xs = v) (w : World) (hR : Rds 4 Ntc.cells w A xs) :
  Calls Tryz.prog 31 #[.slice A xs.length c] w fun e w' => e = .returned (.bool v) ∧ Below w.heap.size w w' := by
  subst hv
  go_enter Tryz.func31, Tryz.ntmps31
  go_wp2
  go_loopw [7] (fun i wr => ∃ k : Nat, k ≤ xs.length ∧ i = .int .i64 k ∧ allTo (ntcStep xs) k = true ∧ Below w.heap.size w wr) (fun i _ => xs.length - (intOf i).toNat)
  case atStart => exact ⟨0, Nat.zero_le _, rfl, rfl, Below.refl _ _⟩
  case round =>
    obtain ⟨k, hk, rfl, hl, hb⟩ := hrel
    have HL := Lib.hid hl; clear hl
    by_cases hlt : k < xs.length
    · obtain ⟨b, off, x, rfl, hbl, hx, hcx⟩ := hR.at_ hb hlt
      obtain ⟨id, s, g, d, hs⟩ := x
      have hbx := fun j => boxed wr #[.int .i64 id, .string s, .int .i64 g, .int .i64 d] 42 j
      have n0 := hbx 0 _ rfl
      have n1 := hbx 1 _ rfl
      have n2 := hbx 2 _ rfl
      have n3 := hbx 3 _ rfl
      clear hbx
      cases k with
      | zero =>
        have f0 := hcx 0 _ rfl
        have f1 := hcx 1 _ rfl
        have f2 := hcx 2 _ rfl
        have f3 := hcx 3 _ rfl
        simp only [Nat.zero_mul, Nat.add_zero] at f0
        simp only [Nat.zero_mul] at f1
        simp only [Nat.zero_mul] at f2
        simp only [Nat.zero_mul] at f3
        have g0 := f0 (Kin.self _)
        have g1 := f1 (Kin.self _)
        have g2 := f2 (Kin.self _)
        have g3 := f3 (Kin.self _)
        simp only [Kin.self] at g0
        simp only [Kin.self] at g1
        simp only [Kin.self] at g2
        simp only [Kin.self] at g3
        have HX := Lib.hid hx; clear hx hcx
        cases hv : noticeB ⟨id, s, g, d, hs⟩
        all_goals
          go_wp2
          refine wp_region_kin (by kernel_rfl) (by kernel_rfl) ?_
          repeat (go_big_quiet_step ((first | (go_at_call 60; exact Kin.call _ (by first | exact Nat.le_refl _ | omega) (isNotice_is _ _ _ _ hs _ hv _)))))
          refine wpQuiet_nil ?_
          intro K
          go_wp2
        · go_ret
          exact ⟨ret_bool (by rw [noticesB, allTo_not hlt (by simp [ntcStep, HX.out, hv])]; rfl), bth hb (bth (bl1 _ _) K.below)⟩
        · go_roundw
          case rel => exact ⟨1, by omega, by go_num, allTo_go HL.out (by simp [ntcStep, HX.out, hv]), bth hb (bth (bl1 _ _) K.below)⟩
          case measure => simp [intOf]; omega
      | succ j =>
        obtain ⟨b', off', y, e', _, hy, hcy⟩ := hR.at_ hb (k := j) (by omega)
        simp only [Option.some.injEq, Addr.mk.injEq, and_true] at e'
        obtain ⟨rfl, rfl⟩ := e'
        obtain ⟨yid, ys, yg, yd, yok⟩ := y
        have f0 := hcx 0 _ rfl
        have f1 := hcx 1 _ rfl
        have f2 := hcx 2 _ rfl
        have f3 := hcx 3 _ rfl
        simp only [Nat.add_zero] at f0
        have g0 := f0 (Kin.self _)
        have g1 := f1 (Kin.self _)
        have g2 := f2 (Kin.self _)
        have g3 := f3 (Kin.self _)
        simp only [Kin.self] at g0
        simp only [Kin.self] at g1
        simp only [Kin.self] at g2
        simp only [Kin.self] at g3
        have y0 := hcy 0 _ rfl
        simp only [Nat.add_zero] at y0
        have y0' := fun K : Kin (wr.alloc _).heap.size (wr.alloc (.cells #[.int .i64 id, .string s, .int .i64 g, .int .i64 d] 42)) => y0 (K.drop (bl1 _ _))
        simp only [Kin.drop] at y0'
        have HX := Lib.hid hx; clear hx hcx
        have HY := Lib.hid hy; clear hy hcy y0
        cases hv : noticeB ⟨id, s, g, d, hs⟩
        · go_wp2
          refine wp_region_kin (by kernel_rfl) (by kernel_rfl) ?_
          repeat (go_big_quiet_step ((first | (go_at_call 60; exact Kin.call _ (by first | exact Nat.le_refl _ | omega) (isNotice_is _ _ _ _ hs _ hv _)))))
          refine wpQuiet_nil ?_
          intro K
          go_wp2
          go_ret
          exact ⟨ret_bool (by rw [noticesB, allTo_not hlt (by simp [ntcStep, HX.out, HY.out, hv])]; rfl), bth hb (bth (bl1 _ _) K.below)⟩
        · by_cases hid : yid < id
          all_goals
            go_wp2
            refine wp_region_kin (by kernel_rfl) (by kernel_rfl) ?_
            repeat (go_big_quiet_step ((first | (go_at_call 60; exact Kin.call _ (by first | exact Nat.le_refl _ | omega) (isNotice_is _ _ _ _ hs _ hv _)))))
            refine wpQuiet_nil ?_
            intro K
            go_wp2
          · go_roundw
            case rel => exact ⟨j + 1 + 1, by omega, by go_num, allTo_go HL.out (by simp [ntcStep, HX.out, HY.out, hv, hid]), bth hb (bth (bl1 _ _) K.below)⟩
            case measure => simp [intOf]; omega
          · go_ret
            exact ⟨ret_bool (by rw [noticesB, allTo_not hlt (by simp [ntcStep, HX.out, HY.out, hv, hid])]; rfl), bth hb (bth (bl1 _ _) K.below)⟩
    · obtain rfl : k = xs.length := by omega
      go_wp2
      go_ret
      exact ⟨ret_bool (by rw [noticesB, HL.out]; simp; omega), hb⟩
end Go.Proofs.YtbnncgahepcfnaaGreatDoor
/- Notices: the first meeting. -/
namespace Go.Proofs.YtbnncgahepcfnaaGreatDoor
open Go.RowKit Go.G9
theorem noticesB_at {xs : List Ntc} (h : noticesB xs = true) {k : Nat} {x : Ntc} (hx : xs[k]? = some x) : noticeB x = true := by
  rw [noticesB, Bool.and_eq_true] at h
  have h1 := allTo_iff.1 h.1 k (List.getElem?_eq_some_iff.1 hx).1
  cases k with
  | zero => simpa [ntcStep, hx] using h1
  | succ j =>
    obtain ⟨y, hy⟩ : ∃ y, xs[j]? = some y := ⟨_, List.getElem?_eq_getElem (by have := (List.getElem?_eq_some_iff.1 hx).1; omega)⟩
    simp [ntcStep, hx, hy] at h1
    exact h1.1
theorem noticesB_len {xs : List Ntc} (h : noticesB xs = true) : xs.length ≤ 10 := by
  rw [noticesB, Bool.and_eq_true] at h; simpa using h.2
theorem noticeB_bdN {id g d : Int} {s : ByteArray} {hs : s.size ≤ maxLen} (h : noticeB ⟨id, s, g, d, hs⟩ = true) : 0 ≤ g ∧ g ≤ 3650 ∧ 0 ≤ d ∧ d ≤ 60 ∧ 1 ≤ id ∧ id ≤ 99 := by
  simp [noticeB, inB] at h; omega
def fmt (xs : List Ntc) : Nat → Int
  | 0 => 0
  | k + 1 => match xs[k]? with | some x => max (fmt xs k) (x.given + x.days) | none => fmt xs k
def fmOut (xs : List Ntc) : Value := if noticesB xs then dayOr (fmt xs xs.length) else .tuple #[.int .i64 0, .bool false]
theorem fmOut_form (xs : List Ntc) : ∃ (a : Int) (b : Bool), fmOut xs = .tuple #[.int .i64 a, .bool b] := by
  unfold fmOut dayOr; split
  · split
    · exact ⟨_, _, rfl⟩
    · exact ⟨_, _, rfl⟩
  · exact ⟨_, _, rfl⟩
set_option maxHeartbeats 1000000 in
theorem firstMeeting_is (A : Option Addr) (c : Nat) (xs : List Ntc) (hn : xs.length ≤ 1048576) (v : Value) (hv : fmOut xs = v) (w : World) (hR : Rds 4 Ntc.cells w A xs) :
  Calls Tryz.prog 27 #[.slice A xs.length c] w fun e w' => e = .returned v ∧ Below w.heap.size w w' := by
  subst hv
  cases hr : noticesB xs
  · go_enter Tryz.func27, Tryz.ntmps27
    go_wp2_with fail
    refine (areNotices_is A c xs hn _ hr _ hR).mono ?_
    rintro e w1 ⟨rfl, hb1⟩
    go_wp2
    go_ret2
    exact ⟨by simp [fmOut, hr], hb1⟩
  · go_enter Tryz.func27, Tryz.ntmps27
    go_wp2_with fail
    refine (areNotices_is A c xs hn _ hr _ hR).mono ?_
    rintro e w1 ⟨rfl, hb1⟩
    have hR1 := hR.below hb1
    go_wp2
    go_loopw [4, 12] (fun m i wr => ∃ k : Nat, k ≤ xs.length ∧ i = .int .i64 k ∧ m = .int .i64 (fmt xs k) ∧ Below w1.heap.size w1 wr) (fun _ i _ => xs.length - (intOf i).toNat)
    case atStart => exact ⟨0, Nat.zero_le _, rfl, rfl, Below.refl _ _⟩
    case round =>
      obtain ⟨k, hk, rfl, rfl, hb⟩ := hrel
      by_cases hlt : k < xs.length
      · obtain ⟨b, off, x, rfl, hbl, hx, hcx⟩ := hR1.at_ hb hlt
        have hv := noticesB_at hr hx
        obtain ⟨id, s, g, d, hs⟩ := x
        obtain ⟨t1, t2, t3, t4, _, _⟩ := noticeB_bdN hv
        have f0 := hcx 0 _ rfl
        have f1 := hcx 1 _ rfl
        have f2 := hcx 2 _ rfl
        have f3 := hcx 3 _ rfl
        simp only [Nat.add_zero] at f0
        have g0 := f0 (Kin.self _)
        have g1 := f1 (Kin.self _)
        have g2 := f2 (Kin.self _)
        have g3 := f3 (Kin.self _)
        simp only [Kin.self] at g0
        simp only [Kin.self] at g1
        simp only [Kin.self] at g2
        simp only [Kin.self] at g3
        have HX := Lib.hid hx; clear hx hcx hv
        have hstep : fmt xs (k + 1) = max (fmt xs k) (g + d) := by rw [fmt, HX.out]
        have HS := Lib.hid hstep; clear hstep
        by_cases hc : fmt xs k ≤ g + d
        · go_wp2
          go_roundw
          case rel => exact ⟨k + 1, by omega, by go_num, by rw [HS.out] <;> go_num, bth hb (bl1 _ _)⟩
          case measure => simp [intOf]; omega
        · go_wp2
          go_roundw
          case rel => exact ⟨k + 1, by omega, by go_num, by rw [HS.out] <;> go_num, bth hb (bl1 _ _)⟩
          case measure => simp [intOf]; omega
      · obtain rfl : k = xs.length := by omega
        cases he : inB (fmt xs xs.length) 0 3650
        · go_wp2_with fail
          refine (asDay_no _ he _).mono ?_
          rintro e w' ⟨rfl, rfl⟩
          go_wp2
          go_ret2
          exact ⟨by simp [fmOut, hr, dayOr, he], bth hb1 hb⟩
        · go_wp2_with fail
          refine (asDay_yes _ he _).mono ?_
          rintro e w' ⟨rfl, rfl⟩
          go_wp2
          go_ret2
          exact ⟨by simp [fmOut, hr, dayOr, he], bth hb1 hb⟩
theorem l1Most_nt (a b : Int) (v : Int) (hv : max a b = v) (w : World) : Calls Tryz.prog 70 #[.int .i64 a, .int .i64 b] w fun e w' => e = .returned (.int .i64 v) ∧ w' = w := by
  subst hv
  by_cases h : b < a
  · go_enter Tryz.func70, Tryz.ntmps70
    go_wp2
    go_ret
    exact ⟨ret_int (by omega), rfl⟩
  · go_enter Tryz.func70, Tryz.ntmps70
    go_wp2
    go_ret
    exact ⟨ret_int (by omega), rfl⟩
set_option maxHeartbeats 1000000 in
theorem sFirstMeeting_is (A : Option Addr) (c : Nat) (xs : List Ntc) (hn : xs.length ≤ 1048576) (v : Value) (hv : fmOut xs = v) (w : World) (hR : Rds 4 Ntc.cells w A xs) :
  Calls Tryz.prog 28 #[.slice A xs.length c] w fun e w' => e = .returned v ∧ Below w.heap.size w w' := by
  subst hv
  cases hr : noticesB xs
  · go_enter Tryz.func28, Tryz.ntmps28
    go_wp2_with fail
    refine (l24Good_is A c xs hn _ hr _ hR).mono ?_
    rintro e w1 ⟨rfl, hb1⟩
    go_wp2
    go_ret2
    exact ⟨by simp [fmOut, hr], hb1⟩
  · go_enter Tryz.func28, Tryz.ntmps28
    go_wp2_with fail
    refine (l24Good_is A c xs hn _ hr _ hR).mono ?_
    rintro e w1 ⟨rfl, hb1⟩
    have hR1 := hR.below hb1
    go_wp2
    go_loopw [4, 5] (fun m i wr => ∃ k : Nat, k ≤ xs.length ∧ i = .int .i64 k ∧ m = .int .i64 (fmt xs k) ∧ Below w1.heap.size w1 wr) (fun _ i _ => xs.length - (intOf i).toNat)
    case atStart => exact ⟨0, Nat.zero_le _, rfl, rfl, Below.refl _ _⟩
    case round =>
      obtain ⟨k, hk, rfl, rfl, hb⟩ := hrel
      by_cases hlt : k < xs.length
      · obtain ⟨b, off, x, rfl, hbl, hx, hcx⟩ := hR1.at_ hb hlt
        have hv := noticesB_at hr hx
        obtain ⟨id, s, g, d, hs⟩ := x
        obtain ⟨t1, t2, t3, t4, _, _⟩ := noticeB_bdN hv
        have f2 := hcx 2 _ rfl
        have f3 := hcx 3 _ rfl
        have HX := Lib.hid hx; clear hx hcx hv
        have hstep : fmt xs (k + 1) = max (fmt xs k) (g + d) := by rw [fmt, HX.out]
        have HS := Lib.hid hstep; clear hstep
        go_wp2
        refine wp_region_kin (by kernel_rfl) (by kernel_rfl) ?_
        repeat (go_big_quiet_step ((first | (go_at_call 70; exact Kin.same _ (l1Most_nt _ _ _ rfl _)))))
        refine wpQuiet_nil ?_
        intro K
        go_wp2
        go_roundw
        case rel => exact ⟨k + 1, by omega, by go_num, by rw [HS.out], bth hb K.below⟩
        case measure => simp [intOf]; omega
      · obtain rfl : k = xs.length := by omega
        cases he : inB (fmt xs xs.length) 0 3650
        all_goals
          go_wp2_with (go_at_call 71; refine (l24Day_is _ _ he _).mono ?_; rintro e w' ⟨rfl, rfl⟩)
          go_ret2
          exact ⟨by simp [fmOut, hr, dayOr, he], bth hb1 hb⟩
end Go.Proofs.YtbnncgahepcfnaaGreatDoor
/- A row of a slice: clearing, room, what lies behind. (Out of XDel.) -/
namespace Go.G9
open Go.RowKit
theorem Blk.setRow {w : World} {g : Nat} {t : TypeId} {cs cs' : Array Value} (h : Blk w g t cs) : Blk (w.setRow g cs') g t cs' := setRow_heap w g cs cs' t (0, 0) h
theorem grown_row {w : World} {g : Nat} {cs' : Array Value} : w.grownBy (w.setRow g cs') (some g) :=
  ⟨rfl, rfl, rfl, by simp, fun i _ hne => by
    unfold World.setRow
    simp only [Array.getElem?_modify]
    rw [if_neg (fun e => hne (by rw [e]))]⟩
/-- append within the room of a block that is known whole. -/
theorem wpList_roomB {P : Program} {w : World} {ops : Array Oper} {rest : List Oper} {o : Oper} {a : Act} {Q : Exit → Act → World → Prop} (hgd : o.guard = none) (s x : Operand) (t : TypeId)
    (ho : o.op = .call { callee := .builtin .append, args := #[s, x], argTypes := #[t, t] })
    (e : TypeId) (i : TypeInfo) (ht : P.underlying t = some (.slice e)) (hi : P.info? e = some i) (g n cap : Nat) (cur : Array Value) (hs : a.eval s = .slice (some ⟨g, 0, none⟩) n cap) (hg : Blk w g e cur)
    (ad : Addr) (m c : Nat) (news : List Value) (hx : a.eval x = .slice (some ad) m c) (hl : news.length = m * i.size) (hnews : ∀ j u, news[j]? = some u → w.cell? (ad.add j) = some u) (h1 : ∀ u ∈ news, u.oneCell' = true)
    (hroom : n + m ≤ cap) (hfit : n * i.size + news.length ≤ cur.size)
    (h : ∀ (W' : World) (cs' : List Value), cs' = cur.toList.take (n * i.size) ++ news ++ cur.toList.drop (n * i.size + news.length) → Blk W' g e cs'.toArray → w.grownBy W' (some g) → wpList P ops Q rest (a.put o.dst (.slice (some ⟨g, 0, none⟩) (n + m) cap)) W') : wpList P ops Q (o :: rest) a w := by
  refine wpList_plain hgd fun _ hK => ?_
  have hr := run_append_room (P := P) w t o.type e i ht hi g n cap cur hg ad m c news hl hnews h1 hroom hfit
  unfold Oper.wp execOp
  simp only [ho, resolve, invoke, builtin, Sem.run_bind, Sem.run_pure, Result.andThen_ok, List.map_toArray, List.map_cons, List.map_nil, hs, hx, hr]
  exact hK _ _ (h _ _ rfl hg.setRow grown_row)
/-- clear of a window of a block that is known whole. -/
theorem run_clearB {P : Program} {w : World} (t ty e : TypeId) (z : Value) (ht : P.underlying t = some (.slice e)) (hv : ∀ w, (zeroValue e).run P w = .ok z w) (h1 : ∀ u ∈ z.cells.toList, u.oneCell' = true) (hz0 : 0 < z.cells.size)
    (g k n : Nat) (cur : List Value) (hn : 0 < n) (hg : Blk w g e cur.toArray) (hfit : k + n * z.cells.size ≤ cur.length) :
    ∃ (zs cs' : List Value), zs.length = n * z.cells.size ∧ cs' = cur.take k ++ zs ++ cur.drop (k + n * z.cells.size) ∧ ∀ c, (Builtin.clear_ #[t] ty #[.slice (some ⟨g, k, none⟩) n c]).run P w = .ok (.tuple #[]) (w.setRow g cs'.toArray) := by
  have hzl : (Builtin.zeroCells z.cells n).toList.length = n * z.cells.size := by simp [Builtin.zeroCells]
  have hz1 : ∀ v ∈ (Builtin.zeroCells z.cells n).toList, v.oneCell' = true := by
    intro v hv'
    simp only [Builtin.zeroCells, Array.toList_map, List.mem_map] at hv'
    obtain ⟨j, _, rfl⟩ := hv'
    have hj : j % z.cells.size < z.cells.size := Nat.mod_lt _ hz0
    rw [getElem!_pos z.cells (j % z.cells.size) hj]
    exact h1 _ (by simp)
  have hst := run_storeCells_at (P := P) g k e (Builtin.zeroCells z.cells n).toList 0 cur.toArray w hg (by rw [hzl]; simp; omega) hz1
  simp only [Nat.add_zero, hzl] at hst
  obtain ⟨m, rfl⟩ : ∃ m, n = m + 1 := ⟨n - 1, by omega⟩
  refine ⟨_, _, hzl, rfl, fun c => ?_⟩
  simp [Builtin.clear_, run_underlying ht, hv, hst]
theorem OwnV.whole {T : Type} {B sz : Nat} {f : T → List Value} {e : TypeId} {w : World} {v : Value} {xs : List T} (hO : OwnV B e sz f w v xs) (hf : ∀ y, (f y).length = sz) (hn : 0 < xs.length) :
    ∃ g cap cs, v = .slice (some ⟨g, 0, none⟩) xs.length cap ∧ B ≤ g ∧ Blk w g e cs ∧ xs.length ≤ cap ∧ cap ≤ maxLen ∧ cs.size = cap * sz ∧ ∀ i x, xs[i]? = some x → ∀ j u, (f x)[j]? = some u → cs[i * sz + j]? = some u := by
  rcases hO.2 with ⟨_, h0⟩ | ⟨g, cap, cur, hv, hB, hh, hnc, hcm, hcs, htake⟩
  · omega
  · refine ⟨g, cap, cur, hv, hB, hh, hnc, hcm, hcs, fun i x hx j u hu => ?_⟩
    have h1 := flat_get hf xs i x hx j u hu
    rw [← htake, List.getElem?_take] at h1
    split at h1
    · simpa using h1
    · cases h1
theorem flat_drop {T : Type} {sz : Nat} {f : T → List Value} (hf : ∀ y, (f y).length = sz) (xs : List T) (k j : Nat) (u : Value) (h : ((xs.drop k).flatMap f)[j]? = some u) : (xs.flatMap f)[k * sz + j]? = some u := by
  obtain ⟨i, j', x, hx, hj, rfl⟩ := flat_inv hf _ _ _ h
  rw [List.getElem?_drop] at hx
  have := flat_get hf xs (k + i) x hx j' u hj
  rwa [Nat.add_mul, Nat.add_assoc] at this
/-- The cells of a row with one element taken out, and the end overwritten. -/
theorem del_cells {T : Type} {sz : Nat} {f : T → List Value} (hf : ∀ y, (f y).length = sz) (hsz : 0 < sz) (xs : List T) (i : Nat) (hi : i < xs.length) (cs : Array Value) (hcs : xs.length * sz ≤ cs.size)
    (hF : ∀ i x, xs[i]? = some x → ∀ j u, (f x)[j]? = some u → cs[i * sz + j]? = some u) (zs : List Value) (hz : zs.length = sz) (cs' cs'' : List Value)
    (h1 : cs' = cs.toList.take (i * sz) ++ (xs.drop (i + 1)).flatMap f ++ cs.toList.drop (i * sz + ((xs.drop (i + 1)).flatMap f).length)) (h2 : cs'' = cs'.take ((xs.length - 1) * sz) ++ zs ++ cs'.drop ((xs.length - 1) * sz + sz)) :
    cs''.length = cs.size ∧ ∀ k x, (xs.eraseIdx i)[k]? = some x → ∀ j u, (f x)[j]? = some u → cs''[k * sz + j]? = some u := by
  have hfl : ((xs.drop (i + 1)).flatMap f).length = (xs.length - (i + 1)) * sz := by rw [flat_len hf]; simp
  have hle : xs.length * sz = i * sz + sz + (xs.length - (i + 1)) * sz := by
    conv => lhs; rw [show xs.length = i + 1 + (xs.length - (i + 1)) by omega, Nat.add_mul, Nat.add_mul, Nat.one_mul]
  have hle2 : (xs.length - 1) * sz = i * sz + (xs.length - (i + 1)) * sz := by
    conv => lhs; rw [show xs.length - 1 = i + (xs.length - (i + 1)) by omega, Nat.add_mul]
  have hl1 : cs'.length = cs.size := by
    rw [h1]; simp only [List.length_append, List.length_take, List.length_drop, Array.length_toList, hfl]; omega
  have hl2 : cs''.length = cs.size := by
    rw [h2]; simp only [List.length_append, List.length_take, List.length_drop, hl1, hz]; omega
  refine ⟨hl2, fun k x hx j u hu => ?_⟩
  have hj : j < sz := by have := hf x; have := (List.getElem?_eq_some_iff.1 hu).1; omega
  have hk : k < xs.length - 1 := by have := (List.getElem?_eq_some_iff.1 hx).1; rw [List.length_eraseIdx] at this; split at this <;> omega
  have hkj : k * sz + j < (xs.length - 1) * sz := by
    have : (k + 1) * sz ≤ (xs.length - 1) * sz := Nat.mul_le_mul_right sz (by omega)
    rw [Nat.add_mul, Nat.one_mul] at this; omega
  have e1 : cs''[k * sz + j]? = cs'[k * sz + j]? := by
    rw [h2, List.append_assoc, List.getElem?_append_left (by rw [List.length_take, hl1]; omega), List.getElem?_take, if_pos hkj]
  rw [e1, h1, List.append_assoc]
  rw [List.getElem?_eraseIdx] at hx
  have hil : (cs.toList.take (i * sz)).length = i * sz := by rw [List.length_take, Array.length_toList]; omega
  split at hx
  · rename_i hki
    have : (k + 1) * sz ≤ i * sz := Nat.mul_le_mul_right sz (by omega)
    rw [Nat.add_mul, Nat.one_mul] at this
    rw [List.getElem?_append_left (by rw [hil]; omega), List.getElem?_take, if_pos (by omega)]
    have := hF k x hx j u hu
    simpa using this
  · rename_i hki
    have hik : i * sz ≤ k * sz := Nat.mul_le_mul_right sz (by omega)
    rw [List.getElem?_append_right (by rw [hil]; omega), hil]
    have h3 : (xs.drop (i + 1))[k - i]? = some x := by rw [List.getElem?_drop, show i + 1 + (k - i) = k + 1 by omega]; exact hx
    have h4 := flat_get hf _ _ _ h3 j u hu
    have e2 : k * sz + j - i * sz = (k - i) * sz + j := by rw [Nat.sub_mul]; omega
    rw [e2, List.getElem?_append_left (List.getElem?_eq_some_iff.1 h4).1]
    exact h4
end Go.G9
/- slices.Delete of one notice of a slice of the call's own. -/
namespace Go.Proofs.YtbnncgahepcfnaaGreatDoor
open Go.RowKit Go.G9
theorem Ntc.cells_len (y : Ntc) : y.cells.length = 4 := rfl
theorem Ntc.cells_one (y : Ntc) (u : Value) (h : u ∈ y.cells) : u.oneCell' = true := by simp [Ntc.cells] at h; rcases h with rfl | rfl | rfl | rfl <;> rfl
theorem zeroNtc : ∀ w, (zeroValue 42).run Tryz.prog w = .ok (.agg #[.int .i64 0, .string ⟨#[]⟩, .int .i64 0, .int .i64 0]) w := fun _ => by kernel_rfl
set_option maxHeartbeats 2000000 in
set_option maxRecDepth 100000 in
theorem delNtc_is (xs : List Ntc) (i : Nat) (hi : i < xs.length) (hn : xs.length ≤ 1048576) (B g cap : Nat) (cs : Array Value) (w : World) (hB : Blk w g 42 cs) (hBg : B ≤ g) (hcap : xs.length ≤ cap) (hcm : cap ≤ maxLen) (hsz : cs.size = cap * 4)
    (hF : ∀ i x, xs[i]? = some x → ∀ j u, x.cells[j]? = some u → cs[i * 4 + j]? = some u) :
  Calls Tryz.prog 79 #[.slice (some ⟨g, 0, none⟩) xs.length cap, .int .i64 (i : Int), .int .i64 ((i : Int) + 1)] w
    fun e w' => e = .returned (.slice (some ⟨g, 0, none⟩) (xs.length - 1) cap) ∧ OwnV B 42 4 Ntc.cells w' (.slice (some ⟨g, 0, none⟩) (xs.length - 1) cap) (xs.eraseIdx i) ∧ w.grownBy w' (some g) := by
  obtain ⟨i0, hi0, hz0, hz1, hz2⟩ := info_parts info_Ntc
  unfold maxLen at hcm
  have HB := Lib.hid hB; have HS := Lib.hid hsz; have HF := Lib.hid hF; clear hB hsz hF
  have hne : ((i : Int) == (i : Int) + 1) = false := beq_eq_false_iff_ne.2 (by omega)
  have hg := HB.out.lt
  go_enter Tryz.func79, Tryz.ntmps79
  go_upto_region 5 with fail
  have hl : ((xs.drop (i + 1)).flatMap Ntc.cells).length = (xs.length - (i + 1)) * i0.size := by rw [flat_len Ntc.cells_len, hz1]; simp
  have hl4 : ((xs.drop (i + 1)).flatMap Ntc.cells).length = (xs.length - (i + 1)) * 4 := by rw [hl, hz1]
  have hnews : ∀ j u, ((xs.drop (i + 1)).flatMap Ntc.cells)[j]? = some u → w.drew.cell? (Addr.add ⟨g, (i + 1) * 4, none⟩ j) = some u := fun j u hu => by
    have h1 := flat_drop Ntc.cells_len xs (i + 1) j u hu
    obtain ⟨i', j', x, hx, hj, hij⟩ := flat_inv Ntc.cells_len xs _ _ h1
    have h2 := HF.out i' x hx j' u hj
    rw [← hij] at h2
    have h3 := (HB.out.cell ((i + 1) * 4 + j)).trans h2
    have e : Addr.add ⟨g, (i + 1) * 4, none⟩ j = ⟨g, (i + 1) * 4 + j, none⟩ := by unfold Addr.add; split <;> simp_all
    rw [e]; exact h3
  have h1c : ∀ u ∈ (xs.drop (i + 1)).flatMap Ntc.cells, u.oneCell' = true := fun u hu => by obtain ⟨y, _, hy⟩ := List.mem_flatMap.1 hu; exact Ntc.cells_one y u hy
  have hB2 : Blk w.drew g 42 cs := HB.out
  have hroom : i + (xs.length - (i + 1)) ≤ cap := by omega
  have hfit : i * i0.size + ((xs.drop (i + 1)).flatMap Ntc.cells).length ≤ cs.size := by rw [hl4, hz1, HS.out]; omega
  have hdel := del_cells Ntc.cells_len (by decide) xs i hi cs (by rw [HS.out]; omega) HF.out
  have hlen : i + (xs.length - (i + 1)) = xs.length - 1 := by omega
  have HL := Lib.hid hl; have HN := Lib.hid hnews; have H1 := Lib.hid h1c; have HB2 := Lib.hid hB2; have HFIT := Lib.hid hfit; have HD := Lib.hid hdel; have HLN := Lib.hid hlen; have HL4 := Lib.hid hl4; have HZ := Lib.hid hz1
  clear hl hnews h1c hB2 hfit hdel hlen hl4 hz1
  haveI : Nonempty (Hld (fun _ : World => True)) := ⟨⟨w, trivial⟩⟩
  have hcase : ∀ ad : Addr, ad = ⟨g, (i + 1) * 4, none⟩ → True := fun _ _ => trivial
  clear hcase
  by_cases hc1 : i + 1 = cap
  · have hni : xs.length = i + 1 := by omega
    have hd0 : (xs.drop (i + 1)).flatMap Ntc.cells = [] := by rw [← hni]; simp
    subst hc1
    have hc1 : cs.toList = cs.toList.take (i * 4) ++ (xs.drop (i + 1)).flatMap Ntc.cells ++ cs.toList.drop (i * 4 + ((xs.drop (i + 1)).flatMap Ntc.cells).length) := by rw [hd0]; simp
    have HNI := Lib.hid hni; have HC1 := Lib.hid hc1
    clear hd0 hni hc1
    refine wp_region_mixh (fun _ => True) [([0, 1, 2, 3, 4, 5], 6)] [7] (by kernel_rfl) (by kernel_rfl) trivial ?_
    refine wpMix_cons fun K hK => ?_
    change wpQuiet _ _ _ _ (_ :: _ :: _ :: _ :: _ :: _ :: []) _
    repeat (go_big_quiet_step (fail))
    refine wpQuiet_nil ?_
    change wpList _ _ _ (_ :: []) _ _
    go_wp2
    refine Nrm_intro trivial (hK _ _ ?_)
    refine wpMix_last ?_
    change wpQuiet _ _ _ _ (_ :: []) _
    repeat (go_big_quiet_step (fail))
    refine wpQuiet_nil ?_
    have hge : i ≤ xs.length := by omega
    have hzz : ∀ u ∈ (Value.agg #[.int .i64 0, .string ⟨#[]⟩, .int .i64 0, .int .i64 0]).cells.toList, u.oneCell' = true := fun u hu => by
      simp [Value.cells] at hu
      rcases hu with rfl | rfl | rfl | rfl <;> rfl
    obtain ⟨zs, cs2, hzs, hcs2, hrun⟩ := run_clearB (P := Tryz.prog) (w := w.drew) 47 0 42 (.agg #[.int .i64 0, .string ⟨#[]⟩, .int .i64 0, .int .i64 0]) Tryz.underlying47 zeroNtc hzz (by decide) g (i * 4) (xs.length - i) cs.toList (by omega) HB2.out (by
      have h1 := HS.out
      have h2 := HNI.out
      have h3 : cs.toList.length = cs.size := Array.length_toList
      show i * 4 + (xs.length - i) * 4 ≤ cs.toList.length
      omega)
    have e1 : xs.length - i = 1 := by have := HNI.out; omega
    have e2 : xs.length - 1 = i := by have := HNI.out; omega
    have HD2 := Lib.hid (HD.out zs (by rw [hzs, e1]; rfl) cs.toList cs2 HC1.out (by rw [hcs2, e1, e2]; rfl))
    have E2 := Lib.hid e2
    clear hzs hcs2 e1 e2
    go_wp2
    go_ret
    have hB2 : Blk (w.drew.setRow g cs2.toArray) g 42 cs2.toArray := HB2.out.setRow
    obtain ⟨d1, d2⟩ := HD2.out
    have hel : (xs.eraseIdx i).length = xs.length - 1 := by rw [List.length_eraseIdx, if_pos hi]
    have e2 := E2.out
    refine ⟨by rw [e2]; rfl, ?_, ⟨rfl, rfl, rfl, by simp, fun i hi hne => (grown_row (w := w.drew)).block i hi hne⟩⟩
    have h := OwnV.ofBlk (B := B) (cap := i + 1) (sz := 4) (f := Ntc.cells) (xs := xs.eraseIdx i) hB2 hBg (by rw [hel]; omega) (by unfold maxLen; omega) (by simp [d1, HS.out]) (fun k x hx j u hu => by simpa using d2 k x hx j u hu)
    rw [hel] at h
    exact h
  refine wp_region_mixh (fun _ => True) [([0, 1, 2, 3, 4, 5], 6)] [7] (by kernel_rfl) (by kernel_rfl) trivial ?_
  refine wpMix_cons fun K hK => ?_
  change wpQuiet _ _ _ _ (_ :: _ :: _ :: _ :: _ :: _ :: []) _
  repeat (go_big_quiet_step (fail))
  refine wpQuiet_nil ?_
  change wpList _ _ _ (_ :: []) _ _
  go_wp2_with (with_reducible refine wpList_roomB rfl _ _ 47 rfl 42 i0 Tryz.underlying47 hi0 g i cap cs rfl HB2.out ⟨g, (i + 1) * 4, none⟩ (xs.length - (i + 1)) _ ((xs.drop (i + 1)).flatMap Ntc.cells) rfl HL.out HN.out H1.out hroom HFIT.out ?_; intro W1 cs1 hcs1 hB1 hgr1; rw [HLN.out]; rw [HZ.out] at hcs1; have HC1 := Lib.hid hcs1; have HB1 := Lib.hid hB1; have HG1 := Lib.hid hgr1; clear hcs1 hB1 hgr1)
  refine Nrm_intro trivial (hK _ _ ?_)
  have hl1 : cs1.length = cap * 4 := by
    rw [HC1.out]
    simp only [List.length_append, List.length_take, List.length_drop, Array.length_toList, HL4.out, HS.out]
    omega
  have HL1 := Lib.hid hl1
  clear hl1
  refine wpMix_last ?_
  change wpQuiet _ _ _ _ (_ :: []) _
  repeat (go_big_quiet_step (fail))
  refine wpQuiet_nil ?_
  have hge : xs.length - 1 ≤ xs.length := Nat.sub_le _ _
  have h1 : xs.length - (xs.length - 1) = 1 := by omega
  have hfit2 : (xs.length - 1) * 4 + 1 * 4 ≤ cs1.toArray.size := by rw [List.size_toArray, HL1.out]; omega
  have H11 := Lib.hid h1; have HF2 := Lib.hid hfit2; clear h1 hfit2
  have hzz : ∀ u ∈ (Value.agg #[.int .i64 0, .string ⟨#[]⟩, .int .i64 0, .int .i64 0]).cells.toList, u.oneCell' = true := fun u hu => by
    simp [Value.cells] at hu
    rcases hu with rfl | rfl | rfl | rfl <;> rfl
  obtain ⟨zs, cs2, hzs, hcs2, hrun⟩ := run_clearB (P := Tryz.prog) (w := W1) 47 0 42 (.agg #[.int .i64 0, .string ⟨#[]⟩, .int .i64 0, .int .i64 0]) Tryz.underlying47 zeroNtc hzz (by decide) g ((xs.length - 1) * 4) (xs.length - (xs.length - 1)) cs1 (by omega) HB1.out (by
    show _ + _ * 4 ≤ _
    rw [HL1.out]; omega)
  have HD2 := Lib.hid (HD.out zs (by rw [hzs, H11.out]; rfl) cs1 cs2 HC1.out (by rw [hcs2, H11.out]; rfl))
  clear hzs hcs2
  go_wp2
  go_ret
  have hB2 : Blk (W1.setRow g cs2.toArray) g 42 cs2.toArray := HB1.out.setRow
  obtain ⟨d1, d2⟩ := HD2.out
  have hel : (xs.eraseIdx i).length = xs.length - 1 := by rw [List.length_eraseIdx, if_pos hi]
  refine ⟨rfl, ?_, grown_tr ⟨HG1.out.os, HG1.out.tape, HG1.out.output, HG1.out.size, HG1.out.block⟩ grown_row⟩
  have h := OwnV.ofBlk (B := B) (cap := cap) (sz := 4) (f := Ntc.cells) (xs := xs.eraseIdx i) hB2 hBg (by rw [hel]; omega) (by unfold maxLen; omega) (by simp [d1, HS.out]) (fun k x hx j u hu => by simpa using d2 k x hx j u hu)
  rw [hel] at h
  exact h
end Go.Proofs.YtbnncgahepcfnaaGreatDoor
