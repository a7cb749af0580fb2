/- slices.IndexFunc and its kin, at the instances that the program uses. -/
import Derived.Test.YthgaddnbgnennaaDoorProg
import Derived.Test.YthgaddnbgnennaaDoorIdx
namespace Go.Proofs.YthgaddnbgnennaaDoor
open Go.RowKit Go.G9
set_option maxHeartbeats 1000000 in
set_option maxRecDepth 100000 in
theorem indexFunc_int (A : Option Addr) (c : Nat) (xs : List Int) (hn : xs.length ≤ 1048576) (f : FuncId) (cv : Array Value) (hcall : ∀ args W, (callFunc f args).run Tryd.prog W = .ok (.enter f args) W) (p : Int → Bool) (v : Int) (hv : idxB p xs = v) (w : World) (hR : Rds 1 intC w A xs)
    (hf : ∀ x, x ∈ xs → ∀ W, Below w.heap.size w W → Calls Tryd.prog f (#[.int .i64 x] ++ cv) W fun e w' => e = .returned (.bool (p x)) ∧ Below W.heap.size W w') :
  Calls Tryd.prog 77 #[.slice A xs.length c, .func (.func f) #[] cv] w fun e w' => e = .returned (.int .i64 v) ∧ Below w.heap.size w w' := by
  subst hv
  have HF := Lib.hid hf; clear hf
  go_enter Tryd.func77, Tryd.ntmps77
  go_wp2
  go_loopw [8] (fun i wr => ∃ k : Nat, k ≤ xs.length ∧ i = .int .i64 k ∧ allTo (fun i => !atB p xs i) k = true ∧ Below w.heap.size w wr) (fun i _ => xs.length - (intOf i).toNat)
  case atStart => exact ⟨0, Nat.zero_le _, rfl, rfl, Below.refl _ _⟩
  case round =>
    obtain ⟨k, hk, rfl, hl, hb⟩ := hrel
    have HL := Lib.hid hl; clear hl
    by_cases hlt : k < xs.length
    · obtain ⟨b, off, x, rfl, hbl, hx, hcx⟩ := hR.at_ hb hlt
      have HF' := Lib.hid (HF.out x (List.mem_of_getElem? hx))
      have f0 := hcx 0 _ rfl
      simp only [Nat.add_zero] at f0
      simp only [Nat.mul_one] at f0
      have g0 := f0 (Kin.self _)
      simp only [Kin.self] at g0
      have HX := Lib.hid hx; clear hx hcx
      go_wp2_with fail
      refine (HF'.out _ hb).mono ?_
      rintro e w' ⟨rfl, hb'⟩
      cases hp : p x
      · go_wp2
        go_roundw
        case rel => exact ⟨k + 1, by omega, by go_num, allTo_go HL.out (by simp [atB, HX.out, hp]), bth hb hb'⟩
        case measure => simp [intOf]; omega
      · go_wp2
        go_ret
        exact ⟨ret_int (idxB_found hlt HL.out (by simp [atB, HX.out, hp])).symm, bth hb hb'⟩
    · obtain rfl : k = xs.length := by omega
      go_wp2
      go_ret
      exact ⟨ret_int (idxB_none HL.out).symm, hb⟩
theorem containsFunc_int (A : Option Addr) (c : Nat) (xs : List Int) (hn : xs.length ≤ 1048576) (f : FuncId) (cv : Array Value) (hcall : ∀ args W, (callFunc f args).run Tryd.prog W = .ok (.enter f args) W) (p : Int → Bool) (v : Bool) (hv : xs.any p = v) (w : World) (hR : Rds 1 intC w A xs)
    (hf : ∀ x, x ∈ xs → ∀ W, Below w.heap.size w W → Calls Tryd.prog f (#[.int .i64 x] ++ cv) W fun e w' => e = .returned (.bool (p x)) ∧ Below W.heap.size W w') :
  Calls Tryd.prog 68 #[.slice A xs.length c, .func (.func f) #[] cv] w fun e w' => e = .returned (.bool v) ∧ Below w.heap.size w w' := by
  subst hv
  have HF := Lib.hid hf; clear hf
  have hg := idxB_ge p xs
  have HG := Lib.hid hg; clear hg
  go_enter Tryd.func68, Tryd.ntmps68
  go_wp2_with fail
  refine (indexFunc_int A c xs hn f cv hcall p _ rfl _ hR HF.out).mono ?_
  rintro e w' ⟨rfl, hb⟩
  go_wp2
  go_ret
  exact ⟨ret_bool HG.out, hb⟩
end Go.Proofs.YthgaddnbgnennaaDoor
