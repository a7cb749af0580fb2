/- Ripe topics: the program's function. -/
import Derived.Test.YthgaddnbgnennaaNt3
import Derived.Test.YthgaddnbgnennaaSrt
import Derived.Test.YthgaddnbgnennaaDel
import Derived.Test.YthgaddnbgnennaaRpP
import Derived.Deep.Cut
namespace Go.Proofs.Ythgaddnbgnennaa
open Go.RowKit Go.G9
def ripeT (n : Ntc) : S8 := n.topic.data.toList
def ripeB (day : Int) (x : Ntc) : Bool := decide (x.given + x.days ≤ day)
def rpRaw (xs : List Ntc) (day : Int) : Nat → List S8
  | 0 => []
  | k + 1 => match xs[k]? with | some x => if ripeB day x then rpRaw xs day k ++ [ripeT x] else rpRaw xs day k | none => rpRaw xs day k
def rpIns (xs : List Ntc) (day : Int) : Nat → List S8
  | 0 => []
  | k + 1 => match xs[k]? with | some x => if ripeB day x then insT (ripeT x) (rpIns xs day k) else rpIns xs day k | none => rpIns xs day k
def rpOk (xs : List Ntc) (day : Int) : Bool := noticesB xs && inB day 0 3650
def rpL (xs : List Ntc) (day : Int) : List S8 := if rpOk xs day then rpIns xs day xs.length else []
theorem rpRaw_len (xs : List Ntc) (day : Int) : ∀ k, (rpRaw xs day k).length ≤ k
  | 0 => Nat.le_refl _
  | k + 1 => by
    have := rpRaw_len xs day k
    unfold rpRaw
    split
    · split <;> simp <;> omega
    · omega
theorem rpIns_len (xs : List Ntc) (day : Int) : ∀ k, (rpIns xs day k).length ≤ k
  | 0 => Nat.le_refl _
  | k + 1 => by
    have := rpIns_len xs day k
    unfold rpIns
    split
    · split
      · have := insT_len (ripeT ‹Ntc›) (rpIns xs day k); omega
      · omega
    · omega
theorem rpIns_pw (xs : List Ntc) (day : Int) : ∀ k, (rpIns xs day k).Pairwise (· < ·)
  | 0 => by simp [rpIns]
  | k + 1 => by
    have := rpIns_pw xs day k
    unfold rpIns
    split
    · split
      · exact insT_pw _ _ this
      · exact this
    · exact this
theorem rp_mem (xs : List Ntc) (day : Int) : ∀ k x, x ∈ rpIns xs day k ↔ x ∈ rpRaw xs day k
  | 0, x => by simp [rpIns, rpRaw]
  | k + 1, x => by
    have ih := rp_mem xs day k x
    unfold rpIns rpRaw
    split
    · split
      · rw [insT_mem, List.mem_append, ih, List.mem_singleton]
        constructor
        · rintro (h | h)
          · exact .inr h
          · exact .inl h
        · rintro (h | h)
          · exact .inr h
          · exact .inl h
      · exact ih
    · exact ih
theorem rp_sorted (xs : List Ntc) (day : Int) (k : Nat) : Lib.compact ((rpRaw xs day k).mergeSort fun x y => decide (x ≤ y)) = rpIns xs day k := comp_sort (rpIns_pw xs day k) (rp_mem xs day k)
theorem str_of (s : ByteArray) : ∃ l : S8, s = ⟨l.toArray⟩ := ⟨s.data.toList, by cases s; simp⟩
theorem info_str : (Try.prog.info? 9).map (fun i => (i.zero, i.size, i.bytes)) = some (some (.string ⟨#[]⟩), 1, 16) := by kernel_rfl
set_option maxHeartbeats 2000000 in
set_option maxRecDepth 100000 in
theorem iRipe_is (A : Option Addr) (c : Nat) (xs : List Ntc) (hn : xs.length ≤ 1048576) (day : Int) (w : World) (hR : Rds 4 Ntc.cells w A xs) :
  Calls Try.prog 36 #[.slice A xs.length c, .int .i64 day] w fun e w' => ∃ A c, e = .returned (.tuple #[.slice A (rpL xs day).length c, .bool (rpOk xs day)]) ∧ OwnV w.heap.size 9 1 sC w' (.slice A (rpL xs day).length c) (rpL xs day) ∧ Below w.heap.size w w' := by
  obtain ⟨i0, hi, hz0, hz1, hz2⟩ := info_parts info_str
  cases hr : noticesB xs
  · have h1 : rpOk xs day = false := by unfold rpOk; rw [hr]; rfl
    have h2 : rpL xs day = [] := by unfold rpL; rw [h1]; rfl
    rw [h1, h2]
    clear h1 h2
    go_enter Try.func36, Try.ntmps36
    go_wp2_with fail
    refine (areNotices_is A c xs hn _ hr _ hR).mono ?_
    rintro e w1 ⟨rfl, hb1⟩
    go_wp2
    go_ret2
    exact ⟨none, 0, rfl, OwnV.nil, hb1⟩
  cases hd : inB day 0 3650
  · have h1 : rpOk xs day = false := by unfold rpOk; rw [hr, hd]; rfl
    have h2 : rpL xs day = [] := by unfold rpL; rw [h1]; rfl
    rw [h1, h2]
    clear h1 h2
    go_enter Try.func36, Try.ntmps36
    go_wp2_with fail
    refine (areNotices_is A c xs hn _ hr _ hR).mono ?_
    rintro e w1 ⟨rfl, hb1⟩
    go_wp2_with (go_at_call 57; refine (isDay_is day _ hd _).mono ?_; rintro e w' ⟨rfl, rfl⟩)
    go_ret2
    exact ⟨none, 0, rfl, OwnV.nil, hb1⟩
  · have h1 : rpOk xs day = true := by unfold rpOk; rw [hr, hd]; rfl
    have h2 : rpL xs day = rpIns xs day xs.length := by unfold rpL; rw [h1]; rfl
    have H1 := Lib.hid h1; have H2 := Lib.hid h2; clear h1 h2
    have hl := noticesB_len hr
    have hdb := inB_iff.1 hd
    go_enter Try.func36, Try.ntmps36
    go_wp2_with fail
    refine (areNotices_is A c xs hn _ hr _ hR).mono ?_
    rintro e w1 ⟨rfl, hb1⟩
    have hR1 := hR.below hb1
    go_wp2_with fail
    refine (isDay_is day _ hd _).mono ?_
    rintro e w0 ⟨rfl, h0⟩
    rw [h0]
    clear h0 w0
    go_wp2
    go_loopw [6, 20] (fun v i wr => ∃ k : Nat, k ≤ xs.length ∧ i = .int .i64 k ∧ (∃ g c, v = .slice (some ⟨g, 0, none⟩) (rpRaw xs day k).length c) ∧ OwnV w1.heap.size 9 1 sC wr v (rpRaw xs day k) ∧ Below w1.heap.size w1 wr) (fun _ i _ => xs.length - (intOf i).toNat)
    case atStart => exact ⟨0, Nat.zero_le _, rfl, ⟨_, _, rfl⟩, OwnV.made w1 (Nat.le_refl _) _, bl1 _ _⟩
    case round =>
      obtain ⟨k, hk, rfl, ⟨gv, cv, rfl⟩, hO, hb⟩ := hrel
      by_cases hlt : k < xs.length
      · obtain ⟨b, off, x, rfl, hbl, hx, hcx⟩ := hR1.at_ hb hlt
        have hv := noticesB_at hr hx
        obtain ⟨id, s, g, d, hs⟩ := x
        obtain ⟨l, rfl⟩ := str_of s
        obtain ⟨t1, t2, t3, t4, _, _⟩ := noticeB_bd hv
        have f0 := hcx 0 _ rfl
        have f1 := hcx 1 _ rfl
        have f2 := hcx 2 _ rfl
        have f3 := hcx 3 _ rfl
        simp only [Nat.add_zero] at f0
        have g0 := f0 (Kin.self _)
        have g1 := f1 (Kin.self _)
        have g2 := f2 (Kin.self _)
        have g3 := f3 (Kin.self _)
        simp only [Kin.self] at g0
        simp only [Kin.self] at g1
        simp only [Kin.self] at g2
        simp only [Kin.self] at g3
        have hstep : rpRaw xs day (k + 1) = if ripeB day ⟨id, ⟨l.toArray⟩, g, d, hs⟩ then rpRaw xs day k ++ [l] else rpRaw xs day k := by rw [rpRaw, hx]; rfl
        have HS := Lib.hid hstep; clear hstep hx hcx hv
        have hml := rpRaw_len xs day k
        have z1 := hb.size
        by_cases hyn : g + d ≤ day
        · have hp : ripeB day ⟨id, ⟨l.toArray⟩, g, d, hs⟩ = true := decide_eq_true hyn
          have HP := Lib.hid hp; clear hp
          have hOb := hO.alloc (.cells #[.int .i64 id, .string ⟨l.toArray⟩, .int .i64 g, .int .i64 d] 72)
          have hR2 : Rds 1 sC ((wr.alloc (.cells #[.int .i64 id, .string ⟨l.toArray⟩, .int .i64 g, .int .i64 d] 72)).alloc (.cells #[.string ⟨l.toArray⟩] 9)) (some ⟨wr.heap.size + 1, 0, none⟩) [l] := by
            have h := Rds.one (f := sC) (sz := 1) (w := wr.alloc (.cells #[.int .i64 id, .string ⟨l.toArray⟩, .int .i64 g, .int .i64 d] 72)) l 9
            simpa [sC] using h
          have HO := Lib.hid (hOb.alloc (.cells #[.string ⟨l.toArray⟩] 9)); have HR2 := Lib.hid hR2
          clear hO hOb hR2
          go_wp2_with ((at_builtin; refine wpList_app rfl _ _ 53 rfl w1.heap.size 9 i0 _ 1 16 Try.underlying53 hi hz0 hz1 hz2 rfl (by decide) sC sC_len sC_one _ (rpRaw xs day k) rfl HO.out (some ⟨wr.heap.size + 1, 0, none⟩) 1 [l] rfl HR2.out (fun h => by cases h) (by unfold maxLen; simp; omega) (by simp; omega) (by simp; omega) ?_; intro v' w4 hO4 hg4))
          have hB4 : Below w1.heap.size w1 w4 := ((hb.alloc (by omega) _).alloc (by simp; omega) _).grown hg4 (by simp; omega) (fun q hq => (HO.out.lt q hq).1)
          go_roundw
          case rel =>
            have e : rpRaw xs day (k + 1) = rpRaw xs day k ++ [l] := by rw [HS.out, if_pos HP.out]
            obtain ⟨g', c', _, rfl, _⟩ := hO4.whole sC_len (by simp)
            exact ⟨k + 1, by omega, by go_num, ⟨g', c', by rw [e]⟩, by rw [e]; exact hO4, hB4⟩
          case measure => simp [intOf]; omega
        · have hp : ripeB day ⟨id, ⟨l.toArray⟩, g, d, hs⟩ = false := decide_eq_false hyn
          have HP := Lib.hid hp; clear hp
          go_wp2
          go_roundw
          case rel =>
            have e : rpRaw xs day (k + 1) = rpRaw xs day k := by rw [HS.out, HP.out]; rfl
            exact ⟨k + 1, by omega, by go_num, ⟨gv, cv, by rw [e]⟩, by rw [e]; exact hO.alloc _, hb.alloc (by omega) _⟩
          case measure => simp [intOf]; omega
      · obtain rfl : k = xs.length := by omega
        have hml := rpRaw_len xs day xs.length
        have hcl := compact_len ((rpRaw xs day xs.length).mergeSort fun x y => decide (x ≤ y))
        have hsl : ((rpRaw xs day xs.length).mergeSort fun x y => decide (x ≤ y)).length = (rpRaw xs day xs.length).length := List.length_mergeSort _
        have h1 := sortS_is w1.heap.size gv cv (rpRaw xs day xs.length) (by omega) wr hO
        have hlo := (hO.lt gv rfl).1
        have hco := fun W h => compactS_is w1.heap.size gv cv ((rpRaw xs day xs.length).mergeSort fun x y => decide (x ≤ y)) (by omega) W h
        rw [hsl, rp_sorted] at hco
        have HS1 := Lib.hid h1; have HC1 := Lib.hid hco
        clear h1 hco hcl hsl
        go_wp2_with fail
        refine HS1.out.mono ?_
        rintro e w2 ⟨rfl, hO2, hg2⟩
        go_wp2_with fail
        refine (HC1.out _ hO2).mono ?_
        rintro e w3 ⟨rfl, hO3, hg3⟩
        go_wp2
        go_ret2
        rw [H2.out, H1.out]
        exact ⟨some ⟨gv, 0, none⟩, cv, rfl, hO3.base hb1.size, bth hb1 ((hb.grown hg2 (by have := hb.size; omega) (fun q hq => by cases hq; exact hlo)).grown hg3 (by have := hb.size; have := hg2.size; omega) (fun q hq => by cases hq; exact hlo))⟩
end Go.Proofs.Ythgaddnbgnennaa
