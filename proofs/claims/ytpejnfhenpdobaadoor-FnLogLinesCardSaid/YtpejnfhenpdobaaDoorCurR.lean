/- The draw of RecoverLog. -/
import Derived.Test.YtpejnfhenpdobaaDoorCurL
import Derived.Deep.Cut
import Derived.Outline
namespace Go.Proofs.YtpejnfhenpdobaaDoor
open Go.RowKit Go.G9
theorem make_zero (n : Nat) (m : Int) (hm : m = n) (hn : n ≤ 1000000) (w : World) : ∃ (C : Array Value) (Z : ByteArray), Z.size = n ∧ (Instr.makeSlice 53 (.int .i64 m) (.int .i64 m)).run Tryd.prog w = .ok (.slice (some ⟨w.heap.size, 0, none⟩) n n) (w.alloc (.cells C 5)) ∧ (Go.convert 53 9 (.slice (some ⟨w.heap.size, 0, none⟩) n n)).run Tryd.prog (w.alloc (.cells C 5)) = .ok (.string Z) (w.alloc (.cells C 5)) := by
  subst hm
  obtain ⟨i0, hi, hy0, hy1, hy2⟩ := info_parts info_u8
  have hmk := run_make_rowN (P := Tryd.prog) 53 5 i0 _ Tryd.underlying53 hi hy0 .i64 .i64 n n (Nat.le_refl _) (by rw [hy2]; omega) (by omega) w
  rw [hy1, Nat.mul_one] at hmk
  have hz : (⟨Array.replicate n 0⟩ : ByteArray).size = n := by show (Array.replicate n (0 : UInt8)).size = n; simp
  have hby : Lib.Bytes (w.alloc (.cells (madeCells #[.int .u8 0] n) 5)) w.heap.size 0 ⟨Array.replicate n 0⟩ := by
    intro i hi
    have hi' : i < n := by rw [hz] at hi; exact hi
    have h := (Blk.new w 5 (madeCells #[.int .u8 0] n)).cell (0 + i)
    rw [h, Nat.zero_add]
    have e1 : (⟨Array.replicate n 0⟩ : ByteArray)[i]'hi = 0 := by show (Array.replicate n (0 : UInt8))[i]'_ = 0; simp
    rw [e1]
    have h2 : i < n := hi'
    simp [madeCells, h2]
    rw [Nat.mod_one]
    rfl
  have kc := Lib.run_convert_whole (P := Tryd.prog) _ 53 5 9 Tryd.underlying53 Tryd.underlying5 Tryd.underlying9 w.heap.size 0 ⟨Array.replicate n 0⟩ hby n
  rw [hz] at kc
  exact ⟨madeCells #[.int .u8 0] n, ⟨Array.replicate n 0⟩, hz, hmk, kc⟩
set_option maxHeartbeats 1000000 in
set_option maxRecDepth 100000 in
theorem l27LineAny_is (k : Int) (hk : 0 ≤ k) (hk2 : k < 100) (c r : ByteArray) (hc : c.size ≤ 20) (hr : r.size ≤ 20) (w : World) : Calls Tryd.prog 44 #[.int .i64 k, .agg #[.string c, .string r]] w fun e w' => ∃ s : ByteArray, e = .returned (.string s) ∧ s.size ≤ 200 ∧ Below w.heap.size w w' := by
  obtain ⟨cl, rfl⟩ : ∃ cl, c = bs cl := ⟨c.data.toList, (bs_of c).symm⟩
  obtain ⟨rl, rfl⟩ : ∃ rl, r = bs rl := ⟨r.data.toList, (bs_of r).symm⟩
  have c2 : cl.length ≤ 20 := by rw [bs_size] at hc; exact hc
  have r2 : rl.length ≤ 20 := by rw [bs_size] at hr; exact hr
  have hbl : (bodyL k cl rl).length ≤ 60 := by
    have a := numL_len2 hk hk2
    unfold bodyL; simp only [List.length_append, List.length_cons]; omega
  have hl : (lineL k cl rl).length ≤ 70 := by
    have a := sealL_len (bodyL k cl rl)
    unfold lineL; omega
  have e1 : numS k ++ ⟨#[32]⟩ ++ bs cl ++ ⟨#[64]⟩ ++ bs rl = bs (bodyL k cl rl) := by
    rw [numS_bs, show (⟨#[32]⟩ : ByteArray) = bs [32] from rfl, show (⟨#[64]⟩ : ByteArray) = bs [64] from rfl, bs_app, bs_app, bs_app, bs_app]; simp [bodyL]
  have hA : ∀ W, Calls Tryd.prog 63 #[.string (numS k ++ ⟨#[32]⟩ ++ bs cl ++ ⟨#[64]⟩ ++ bs rl)] W fun e w' => e = .returned (.string (bs (lineL k cl rl))) ∧ Below W.heap.size W w' := fun W => by
    rw [e1]; exact l1Seal_is _ (by omega) W
  have s1 : (bs cl).size ≤ 20 := hc
  have s2 : (bs rl).size ≤ 20 := hr
  have s3 : (bs (lineL k cl rl)).size ≤ 70 := by rw [bs_size]; exact hl
  have s4 := numS_size k (by omega)
  have hcat : bs (lineL k cl rl) ++ ⟨#[10]⟩ = bs (lineL k cl rl ++ [10]) := bs_app _ _
  have HA := Lib.hid hA; have HC := Lib.hid hcat; clear hA hcat e1 hbl
  have b0 := boxed w #[.string (bs cl), .string (bs rl)] 27 0 (.string (bs cl)) rfl
  have b1 := boxed w #[.string (bs cl), .string (bs rl)] 27 1 (.string (bs rl)) rfl
  go_enter Tryd.func44, Tryd.ntmps44
  go_wp2
  refine wp_region_kin (by kernel_rfl) (by kernel_rfl) ?_
  repeat (go_big_quiet_step ((first
    | (go_at_call 64; exact Kin.call _ (by first | exact Nat.le_refl _ | omega) (l1Num_is _ (by omega) (by omega) _))
    | (go_at_call 63; exact Kin.call _ (by first | exact Nat.le_refl _ | omega) (HA.out _)))))
  refine wpQuiet_nil ?_
  intro K
  go_wp2
  go_ret
  refine ⟨bs (lineL k cl rl ++ [10]), by rw [← HC.out]; rfl, ?_, bth (bl1 _ _) K.below⟩
  rw [bs_size]; simp; omega
set_option maxHeartbeats 2000000 in
set_option maxRecDepth 100000 in
theorem drawRecoverLog_is (A : Option Addr) (c : Nat) (cs : List UInt8) (hcs : cs.length ≤ 1048576) (w : World) (hR : Rds 1 u8C w A cs) :
  Calls Tryd.prog 40 #[.slice A cs.length c] w fun e w' => ∃ s : ByteArray, e = .returned (.string s) ∧ s.size ≤ 40000 ∧ Below w.heap.size w w' := by
  go_enter Tryd.func40, Tryd.ntmps40
  go_upto_region 2 with fail
  have hlt : ∀ ad, A = some ad → 0 < cs.length → ad.block < w.heap.size := fun ad h h0 => by
    obtain ⟨b, off, h1, h2, _⟩ := hR h0
    rw [h1] at h; cases h; exact h2
  have hP := Blk.new w 74 #[.slice A cs.length c, .int .i64 0, .int .u64 0]
  have HB : Below w.heap.size w (w.alloc (.cells #[.slice A cs.length c, .int .i64 0, .int .u64 0] 74)) := bl1 w _
  generalize (w.alloc (.cells #[.slice A cs.length c, .int .i64 0, .int .u64 0] 74)) = wA at *
  have hC : Cur wA w.heap.size A c cs 0 := ⟨⟨0, 0, hP, by decide, by decide⟩, hR.below HB, hlt⟩
  obtain ⟨p, hpe⟩ : ∃ p, p = w.heap.size := ⟨_, rfl⟩
  rw [← hpe] at hC
  obtain ⟨n0, hn0⟩ : ∃ n : Nat, n ≤ 0 := ⟨0, Nat.le_refl _⟩
  replace hC : Cur wA p A c cs n0 := hC.mono (Nat.zero_le _)
  have hpost : ∀ (e : Ending) (w' : World), (∃ s : ByteArray, e = .returned (.string s) ∧ s.size ≤ 40000 ∧ Below p w w') → ∃ s : ByteArray, e = .returned (.string s) ∧ s.size ≤ 40000 ∧ Below w.heap.size w w' := fun e w' h => by rw [← hpe]; exact h
  clear hpost
  simp only [← hpe]
  have hp := hC.lt
  have HG := grown_refl w (some p)
  replace HG : w.grownBy wA (some p) := below_grown HB _
  have szw : w.heap.size ≤ wA.heap.size := HB.size
  have hwp : w.heap.size ≤ p := by omega
  have hpw : p ≤ w.heap.size := by omega
  clear hR hlt hP HB hpe
  go_wp2_with fail
  refine (drawLog_is p A c cs hcs n0 (by omega) _ (hC.later (by repeat (first | exact Below.refl _ _ | refine Below.alloc ?_ (by first | exact Nat.le_refl _ | (simp <;> omega)) _ | refine Below.setCell ?_ (by first | exact Nat.le_refl _ | (simp <;> omega)) _)))).mono ?_
  rintro e w1 ⟨x, rfl, hx, hS1⟩
  have hg1 : wA.grownBy w1 (some p) := grown_tr (below_grown (by repeat (first | exact Below.refl _ _ | refine Below.alloc ?_ (by first | exact Nat.le_refl _ | (simp <;> omega)) _ | refine Below.setCell ?_ (by first | exact Nat.le_refl _ | (simp <;> omega)) _)) _) hS1.2
  replace hC := hS1.1
  have sz1 := hg1.size
  replace HG := grown_tr HG hg1
  go_upto_region 3 with fail
  have hb2 : Below w1.heap.size w1 (World.alloc w1 (.cells #[.string x.dur, .string x.pen, .int .i64 x.cnt] 31)) := bl1 w1 _
  have hL : Blk (World.alloc w1 (.cells #[.string x.dur, .string x.pen, .int .i64 x.cnt] 31)) (w1.heap.size) 31 #[.string x.dur, .string x.pen, .int .i64 x.cnt] := by repeat (first | exact Blk.new _ _ _ | exact Blk.new2 _ _ _ _ | exact Blk.new3 _ _ _ _ _ | exact Blk.new4 _ _ _ _ _ _ | refine Blk.alloc ?_ _)
  generalize World.alloc w1 (.cells #[.string x.dur, .string x.pen, .int .i64 x.cnt] 31) = wL at *
  replace hC := hC.later hb2
  replace HG := grown_tr HG (below_grown hb2 (some p))
  have sz2 := hb2.size
  have LhL := hL.lt
  have l0 := (hL.cell 0).trans (show _ = some (.string x.dur) from rfl)
  have l1 := (hL.cell 1).trans (show _ = some (.string x.pen) from rfl)
  have l2 := (hL.cell 2).trans (show _ = some (.int .i64 x.cnt) from rfl)
  have hsz : (x.dur ++ x.pen).size = x.dur.size + x.pen.size := ByteArray.size_append
  go_upto_region 4 with fail
  obtain ⟨s0, hs0⟩ : ∃ s0, s0 = x.dur ++ x.pen := ⟨_, rfl⟩
  simp only [← hs0] at hsz ⊢
  have hs3 : s0.size ≤ 3000 := by omega
  clear hs0 hsz hx l0 l1 l2
  clear hL LhL
  go_wp2_with fail
  refine (pick_is 4 p A c cs hcs (n0 + 100) (by omega) (by omega) _ (hC.later (by repeat (first | exact Below.refl _ _ | refine Below.alloc ?_ (by first | exact Nat.le_refl _ | (simp <;> omega)) _ | refine Below.setCell ?_ (by first | exact Nat.le_refl _ | (simp <;> omega)) _)))).mono ?_
  rintro e w3 ⟨r, rfl, ⟨hr0, _, hr1⟩, hS3⟩
  have hg3 : wL.grownBy w3 (some p) := grown_tr (below_grown (by repeat (first | exact Below.refl _ _ | refine Below.alloc ?_ (by first | exact Nat.le_refl _ | (simp <;> omega)) _ | refine Below.setCell ?_ (by first | exact Nat.le_refl _ | (simp <;> omega)) _)) _) hS3.2
  replace hC := hS3.1
  have sz3 := hg3.size
  replace HG := grown_tr HG hg3
  have hr2 := hr1 (by omega)
  clear hr1
  rcases (show r = 0 ∨ r = 1 ∨ r = 2 ∨ r = 3 by omega) with rfl | rfl | rfl | rfl
  · go_wp2_with fail
    refine (spoilt_is s0 ⟨#[35, 64, 10, 48, 49]⟩ (by omega) (by decide) (by decide) p A c cs hcs (n0 + 100 + 2) (by omega) _ (hC.later (by repeat (first | exact Below.refl _ _ | refine Below.alloc ?_ (by first | exact Nat.le_refl _ | (simp <;> omega)) _ | refine Below.setCell ?_ (by first | exact Nat.le_refl _ | (simp <;> omega)) _)))).mono ?_
    rintro e w4 ⟨s1, rfl, hs1, hS4⟩
    have hg4 : w3.grownBy w4 (some p) := grown_tr (below_grown (by repeat (first | exact Below.refl _ _ | refine Below.alloc ?_ (by first | exact Nat.le_refl _ | (simp <;> omega)) _ | refine Below.setCell ?_ (by first | exact Nat.le_refl _ | (simp <;> omega)) _)) _) hS4.2
    replace hC := hS4.1
    have sz4 := hg4.size
    replace HG := grown_tr HG hg4
    go_upto_region 11 with fail
    obtain ⟨s', hse⟩ : ∃ s' : ByteArray, s' = s1 := ⟨_, rfl⟩
    have hs' : s'.size ≤ 7000 := by rw [hse]; omega
    simp only [← hse]
    clear hse hr0 hr2 hs1 hs3
    go_wp2_with fail
    refine (one_is 40 p A c cs hcs (n0 + 100 + 2 + 6) (by omega) (by omega) _ (hC.later (by repeat (first | exact Below.refl _ _ | refine Below.alloc ?_ (by first | exact Nat.le_refl _ | (simp <;> omega)) _ | refine Below.setCell ?_ (by first | exact Nat.le_refl _ | (simp <;> omega)) _)))).mono ?_
    rintro e w5 ⟨b, rfl, hS5⟩
    have hg5 : w4.grownBy w5 (some p) := grown_tr (below_grown (by repeat (first | exact Below.refl _ _ | refine Below.alloc ?_ (by first | exact Nat.le_refl _ | (simp <;> omega)) _ | refine Below.setCell ?_ (by first | exact Nat.le_refl _ | (simp <;> omega)) _)) _) hS5.2
    replace hC := hS5.1
    have sz5 := hg5.size
    replace HG := grown_tr HG hg5
    cases b
    · go_wp2
      go_ret
      exact ⟨_, rfl, by omega, grown_below HG (by omega) (fun k hk => by cases hk; omega)⟩
    · go_wp2_with fail
      refine (pick_is 2 p A c cs hcs (n0 + 100 + 2 + 6 + 2) (by omega) (by omega) _ (hC.later (by repeat (first | exact Below.refl _ _ | refine Below.alloc ?_ (by first | exact Nat.le_refl _ | (simp <;> omega)) _ | refine Below.setCell ?_ (by first | exact Nat.le_refl _ | (simp <;> omega)) _)))).mono ?_
      rintro e w6 ⟨q, rfl, ⟨hq0, _, hq1⟩, hS6⟩
      have hg6 : w5.grownBy w6 (some p) := grown_tr (below_grown (by repeat (first | exact Below.refl _ _ | refine Below.alloc ?_ (by first | exact Nat.le_refl _ | (simp <;> omega)) _ | refine Below.setCell ?_ (by first | exact Nat.le_refl _ | (simp <;> omega)) _)) _) hS6.2
      replace hC := hS6.1
      have sz6 := hg6.size
      replace HG := grown_tr HG hg6
      have hq2 := hq1 (by omega)
      clear hq1
      by_cases hq : q = 0
      · subst hq
        obtain ⟨C, Z, hZs, hmk, kc⟩ := make_zero 30000 30000 rfl (by omega) w6
        go_wp2
        go_ret
        exact ⟨_, rfl, by omega, bth (grown_below HG (by omega) (fun k hk => by cases hk; omega)) (bl1 _ _)⟩
      · obtain rfl : q = 1 := by omega
        obtain ⟨C, Z, hZs, hmk, kc⟩ := make_zero 30001 30001 rfl (by omega) w6
        go_wp2
        go_ret
        exact ⟨_, rfl, by omega, bth (grown_below HG (by omega) (fun k hk => by cases hk; omega)) (bl1 _ _)⟩
  · have hs4 : (s0.size : Int) + 1 ≤ 1048576 := by omega
    go_wp2_with fail
    refine (pick_is ((s0.size : Int) + 1) p A c cs hcs (n0 + 100 + 2) (by omega) (by omega) _ (hC.later (by repeat (first | exact Below.refl _ _ | refine Below.alloc ?_ (by first | exact Nat.le_refl _ | (simp <;> omega)) _ | refine Below.setCell ?_ (by first | exact Nat.le_refl _ | (simp <;> omega)) _)))).mono ?_
    rintro e w4 ⟨i, rfl, ⟨hi0, hi1, hi2⟩, hS4⟩
    have hg4 : w3.grownBy w4 (some p) := grown_tr (below_grown (by repeat (first | exact Below.refl _ _ | refine Below.alloc ?_ (by first | exact Nat.le_refl _ | (simp <;> omega)) _ | refine Below.setCell ?_ (by first | exact Nat.le_refl _ | (simp <;> omega)) _)) _) hS4.2
    replace hC := hS4.1
    have sz4 := hg4.size
    replace HG := grown_tr HG hg4
    have hi3 : i ≤ s0.size := by
      by_cases h1 : (1 : Int) < (s0.size : Int) + 1
      · have := hi2 h1; omega
      · have := hi1 (by omega); omega
    clear hi1 hi2
    go_upto_region 11 with fail
    obtain ⟨s', hse⟩ : ∃ s' : ByteArray, s' = s0.extract 0 i.toNat := ⟨_, rfl⟩
    have hs' : s'.size ≤ 7000 := by rw [hse]; rw [ByteArray.size_extract]; omega
    simp only [← hse]
    clear hse hr0 hr2 hs3 hs4 hi3 hi0
    go_wp2_with fail
    refine (one_is 40 p A c cs hcs (n0 + 100 + 2 + 2) (by omega) (by omega) _ (hC.later (by repeat (first | exact Below.refl _ _ | refine Below.alloc ?_ (by first | exact Nat.le_refl _ | (simp <;> omega)) _ | refine Below.setCell ?_ (by first | exact Nat.le_refl _ | (simp <;> omega)) _)))).mono ?_
    rintro e w5 ⟨b, rfl, hS5⟩
    have hg5 : w4.grownBy w5 (some p) := grown_tr (below_grown (by repeat (first | exact Below.refl _ _ | refine Below.alloc ?_ (by first | exact Nat.le_refl _ | (simp <;> omega)) _ | refine Below.setCell ?_ (by first | exact Nat.le_refl _ | (simp <;> omega)) _)) _) hS5.2
    replace hC := hS5.1
    have sz5 := hg5.size
    replace HG := grown_tr HG hg5
    cases b
    · go_wp2
      go_ret
      exact ⟨_, rfl, by omega, grown_below HG (by omega) (fun k hk => by cases hk; omega)⟩
    · go_wp2_with fail
      refine (pick_is 2 p A c cs hcs (n0 + 100 + 2 + 2 + 2) (by omega) (by omega) _ (hC.later (by repeat (first | exact Below.refl _ _ | refine Below.alloc ?_ (by first | exact Nat.le_refl _ | (simp <;> omega)) _ | refine Below.setCell ?_ (by first | exact Nat.le_refl _ | (simp <;> omega)) _)))).mono ?_
      rintro e w6 ⟨q, rfl, ⟨hq0, _, hq1⟩, hS6⟩
      have hg6 : w5.grownBy w6 (some p) := grown_tr (below_grown (by repeat (first | exact Below.refl _ _ | refine Below.alloc ?_ (by first | exact Nat.le_refl _ | (simp <;> omega)) _ | refine Below.setCell ?_ (by first | exact Nat.le_refl _ | (simp <;> omega)) _)) _) hS6.2
      replace hC := hS6.1
      have sz6 := hg6.size
      replace HG := grown_tr HG hg6
      have hq2 := hq1 (by omega)
      clear hq1
      by_cases hq : q = 0
      · subst hq
        obtain ⟨C, Z, hZs, hmk, kc⟩ := make_zero 30000 30000 rfl (by omega) w6
        go_wp2
        go_ret
        exact ⟨_, rfl, by omega, bth (grown_below HG (by omega) (fun k hk => by cases hk; omega)) (bl1 _ _)⟩
      · obtain rfl : q = 1 := by omega
        obtain ⟨C, Z, hZs, hmk, kc⟩ := make_zero 30001 30001 rfl (by omega) w6
        go_wp2
        go_ret
        exact ⟨_, rfl, by omega, bth (grown_below HG (by omega) (fun k hk => by cases hk; omega)) (bl1 _ _)⟩
  · go_wp2_with fail
    refine (pick_is 4 p A c cs hcs (n0 + 100 + 2) (by omega) (by omega) _ (hC.later (by repeat (first | exact Below.refl _ _ | refine Below.alloc ?_ (by first | exact Nat.le_refl _ | (simp <;> omega)) _ | refine Below.setCell ?_ (by first | exact Nat.le_refl _ | (simp <;> omega)) _)))).mono ?_
    rintro e w4 ⟨i, rfl, ⟨hi0, _, hi1⟩, hS4⟩
    have hg4 : w3.grownBy w4 (some p) := grown_tr (below_grown (by repeat (first | exact Below.refl _ _ | refine Below.alloc ?_ (by first | exact Nat.le_refl _ | (simp <;> omega)) _ | refine Below.setCell ?_ (by first | exact Nat.le_refl _ | (simp <;> omega)) _)) _) hS4.2
    replace hC := hS4.1
    have sz4 := hg4.size
    replace HG := grown_tr HG hg4
    have hi2 := hi1 (by omega)
    clear hi1
    go_wp2_with fail
    refine (logRecord_is p A c cs hcs (n0 + 100 + 2 + 2) (by omega) _ (hC.later (by repeat (first | exact Below.refl _ _ | refine Below.alloc ?_ (by first | exact Nat.le_refl _ | (simp <;> omega)) _ | refine Below.setCell ?_ (by first | exact Nat.le_refl _ | (simp <;> omega)) _)))).mono ?_
    rintro e w5 ⟨y, rfl, ⟨hy1, hy2⟩, hS5⟩
    have hg5 : w4.grownBy w5 (some p) := grown_tr (below_grown (by repeat (first | exact Below.refl _ _ | refine Below.alloc ?_ (by first | exact Nat.le_refl _ | (simp <;> omega)) _ | refine Below.setCell ?_ (by first | exact Nat.le_refl _ | (simp <;> omega)) _)) _) hS5.2
    replace hC := hS5.1
    have sz5 := hg5.size
    replace HG := grown_tr HG hg5
    go_wp2_with fail
    refine (l27LineAny_is i hi0 (by omega) y.cmd y.rep hy1 hy2 _).mono ?_
    rintro e w6 ⟨s2, rfl, hs2, hS6⟩
    have hb6 : Below w5.heap.size w5 w6 := bth (by repeat (first | exact Below.refl _ _ | refine Below.alloc ?_ (by first | exact Nat.le_refl _ | (simp <;> omega)) _ | refine Below.setCell ?_ (by first | exact Nat.le_refl _ | (simp <;> omega)) _)) hS6
    have hg6 : w5.grownBy w6 (some p) := below_grown hb6 _
    replace hC := hC.later hb6
    have sz6 := hg6.size
    replace HG := grown_tr HG hg6
    have hsz2 : (s0 ++ s2).size = s0.size + s2.size := ByteArray.size_append
    go_upto_region 11 with fail
    obtain ⟨s', hse⟩ : ∃ s' : ByteArray, s' = s0 ++ s2 := ⟨_, rfl⟩
    have hs' : s'.size ≤ 7000 := by rw [hse]; omega
    simp only [← hse]
    clear hse hr0 hr2 hs2 hsz2 hs3 hy1 hy2 hi0 hi2
    go_wp2_with fail
    refine (one_is 40 p A c cs hcs (n0 + 100 + 2 + 2 + 10) (by omega) (by omega) _ (hC.later (by repeat (first | exact Below.refl _ _ | refine Below.alloc ?_ (by first | exact Nat.le_refl _ | (simp <;> omega)) _ | refine Below.setCell ?_ (by first | exact Nat.le_refl _ | (simp <;> omega)) _)))).mono ?_
    rintro e w7 ⟨b, rfl, hS7⟩
    have hg7 : w6.grownBy w7 (some p) := grown_tr (below_grown (by repeat (first | exact Below.refl _ _ | refine Below.alloc ?_ (by first | exact Nat.le_refl _ | (simp <;> omega)) _ | refine Below.setCell ?_ (by first | exact Nat.le_refl _ | (simp <;> omega)) _)) _) hS7.2
    replace hC := hS7.1
    have sz7 := hg7.size
    replace HG := grown_tr HG hg7
    cases b
    · go_wp2
      go_ret
      exact ⟨_, rfl, by omega, grown_below HG (by omega) (fun k hk => by cases hk; omega)⟩
    · go_wp2_with fail
      refine (pick_is 2 p A c cs hcs (n0 + 100 + 2 + 2 + 10 + 2) (by omega) (by omega) _ (hC.later (by repeat (first | exact Below.refl _ _ | refine Below.alloc ?_ (by first | exact Nat.le_refl _ | (simp <;> omega)) _ | refine Below.setCell ?_ (by first | exact Nat.le_refl _ | (simp <;> omega)) _)))).mono ?_
      rintro e w8 ⟨q, rfl, ⟨hq0, _, hq1⟩, hS8⟩
      have hg8 : w7.grownBy w8 (some p) := grown_tr (below_grown (by repeat (first | exact Below.refl _ _ | refine Below.alloc ?_ (by first | exact Nat.le_refl _ | (simp <;> omega)) _ | refine Below.setCell ?_ (by first | exact Nat.le_refl _ | (simp <;> omega)) _)) _) hS8.2
      replace hC := hS8.1
      have sz8 := hg8.size
      replace HG := grown_tr HG hg8
      have hq2 := hq1 (by omega)
      clear hq1
      by_cases hq : q = 0
      · subst hq
        obtain ⟨C, Z, hZs, hmk, kc⟩ := make_zero 30000 30000 rfl (by omega) w8
        go_wp2
        go_ret
        exact ⟨_, rfl, by omega, bth (grown_below HG (by omega) (fun k hk => by cases hk; omega)) (bl1 _ _)⟩
      · obtain rfl : q = 1 := by omega
        obtain ⟨C, Z, hZs, hmk, kc⟩ := make_zero 30001 30001 rfl (by omega) w8
        go_wp2
        go_ret
        exact ⟨_, rfl, by omega, bth (grown_below HG (by omega) (fun k hk => by cases hk; omega)) (bl1 _ _)⟩
  · go_upto_region 11 with fail
    obtain ⟨s', hse⟩ : ∃ s' : ByteArray, s' = s0 := ⟨_, rfl⟩
    have hs' : s'.size ≤ 7000 := by rw [hse]; omega
    simp only [← hse]
    clear hse hr0 hr2 hs3
    go_wp2_with fail
    refine (one_is 40 p A c cs hcs (n0 + 100 + 2) (by omega) (by omega) _ (hC.later (by repeat (first | exact Below.refl _ _ | refine Below.alloc ?_ (by first | exact Nat.le_refl _ | (simp <;> omega)) _ | refine Below.setCell ?_ (by first | exact Nat.le_refl _ | (simp <;> omega)) _)))).mono ?_
    rintro e w4 ⟨b, rfl, hS4⟩
    have hg4 : w3.grownBy w4 (some p) := grown_tr (below_grown (by repeat (first | exact Below.refl _ _ | refine Below.alloc ?_ (by first | exact Nat.le_refl _ | (simp <;> omega)) _ | refine Below.setCell ?_ (by first | exact Nat.le_refl _ | (simp <;> omega)) _)) _) hS4.2
    replace hC := hS4.1
    have sz4 := hg4.size
    replace HG := grown_tr HG hg4
    cases b
    · go_wp2
      go_ret
      exact ⟨_, rfl, by omega, grown_below HG (by omega) (fun k hk => by cases hk; omega)⟩
    · go_wp2_with fail
      refine (pick_is 2 p A c cs hcs (n0 + 100 + 2 + 2) (by omega) (by omega) _ (hC.later (by repeat (first | exact Below.refl _ _ | refine Below.alloc ?_ (by first | exact Nat.le_refl _ | (simp <;> omega)) _ | refine Below.setCell ?_ (by first | exact Nat.le_refl _ | (simp <;> omega)) _)))).mono ?_
      rintro e w5 ⟨q, rfl, ⟨hq0, _, hq1⟩, hS5⟩
      have hg5 : w4.grownBy w5 (some p) := grown_tr (below_grown (by repeat (first | exact Below.refl _ _ | refine Below.alloc ?_ (by first | exact Nat.le_refl _ | (simp <;> omega)) _ | refine Below.setCell ?_ (by first | exact Nat.le_refl _ | (simp <;> omega)) _)) _) hS5.2
      replace hC := hS5.1
      have sz5 := hg5.size
      replace HG := grown_tr HG hg5
      have hq2 := hq1 (by omega)
      clear hq1
      by_cases hq : q = 0
      · subst hq
        obtain ⟨C, Z, hZs, hmk, kc⟩ := make_zero 30000 30000 rfl (by omega) w5
        go_wp2
        go_ret
        exact ⟨_, rfl, by omega, bth (grown_below HG (by omega) (fun k hk => by cases hk; omega)) (bl1 _ _)⟩
      · obtain rfl : q = 1 := by omega
        obtain ⟨C, Z, hZs, hmk, kc⟩ := make_zero 30001 30001 rfl (by omega) w5
        go_wp2
        go_ret
        exact ⟨_, rfl, by omega, bth (grown_below HG (by omega) (fun k hk => by cases hk; omega)) (bl1 _ _)⟩
end Go.Proofs.YtpejnfhenpdobaaDoor
