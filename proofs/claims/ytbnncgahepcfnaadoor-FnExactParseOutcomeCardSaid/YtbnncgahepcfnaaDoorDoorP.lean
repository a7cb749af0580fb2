/- The phrases for the needs, from the row's list. -/
import Derived.Test.YtbnncgahepcfnaaDoorDoor
import Derived.Test.YtbnncgahepcfnaaDoorPoI
import Derived.Test.YtbnncgahepcfnaaDoorTxr3
import Derived.Test.YtbnncgahepcfnaaDoorLg
import Derived.Test.YtbnncgahepcfnaaDoorRead
import Derived.Deep.RegionHeld3
namespace Go.Proofs.YtbnncgahepcfnaaDoor
open Go.RowKit Go.G9
theorem szMotionResultR_is (r : Res) (l : Int) (h0 : 0 ≤ l) (h1 : l ≤ 1048576) (w : World) : Calls Tryd.prog 10 #[.agg #[.string r.motion, .int .i64 r.need, .int .i64 r.yes, .int .i64 r.no, .int .i64 r.abst], .int .i64 l] w fun e w' => ∃ q : Int, e = .returned (.int .i64 q) ∧ -1 ≤ q ∧ q ≤ l ∧ (q < 0 ∨ True) ∧ Below w.heap.size w w' :=
  (szMotionResult_is r.motion r.need r.yes r.no r.abst l r.ok h0 h1 w).mono fun _ _ ⟨q, e, h, hb⟩ => ⟨q, e, h.1, h.2, .inr trivial, hb⟩
theorem toMotionResultR_is (r : Res) (w : World) : Calls Tryd.prog 12 #[.agg #[.string r.motion, .int .i64 r.need, .int .i64 r.yes, .int .i64 r.no, .int .i64 r.abst]] w fun e w' => e = .returned (.agg #[.string r.motion, .int .i64 r.need, .int .i64 r.yes, .int .i64 r.no, .int .i64 r.abst]) ∧ Below w.heap.size w w' := toMotionResult_is r.motion r.need r.yes r.no r.abst w
theorem strs_of_tab {H : Type} {enc : TypeId × Value → H} {P : Program} {w : World} {base : Nat} {sp : Nat → Bool} {held : Bool} {fuel : Nat} {t e : TypeId} {n : Nat} {cs : List Value} {ss : List (List UInt8)} {p : List MemPlace}
    (ht : P.underlying t = some (.array n e)) (he : P.underlying e = some .string) (hce : P.cellsOf e = 1) (hct : P.cellsOf t = n)
    (h : DataW.trod enc P w base sp held fuel t cs = some (.agg (ss.map fun s => .lit (.string s)), p)) : ∀ (i : Nat) (s : List UInt8), ss[i]? = some s → cs[i]? = some (.string ⟨s.toArray⟩) := by
  cases fuel with
  | zero => simp [DataW.trod] at h
  | succ fuel =>
    simp only [DataW.trod, ht, hce, hct, Nat.mul_one] at h
    split at h
    · rename_i hl
      obtain ⟨xs, hm, hx⟩ := Option.map_eq_some_iff.1 h
      have hxs : xs.map (·.1) = ss.map fun s => (DataW.lit (.string s) : DataW H) := by
        have := congrArg Prod.fst hx
        simpa using this
      have hxl : xs.length = n := by simpa using Lib.mapM_length hm
      have hzl : ss.length = n := by
        have := congrArg List.length hxs
        simp at this
        omega
      intro i s hs
      have hi : i < n := by have := (List.getElem?_eq_some_iff.1 hs).1; omega
      obtain ⟨b, hb, hf⟩ := Lib.mapM_at hm i i (by simp [hi])
      obtain ⟨z, hc, rfl, _⟩ := DataW.trod_string he hf
      have h1 : cs[i]? = some (.string z) := by
        have := congrArg (·[0]?) hc
        simpa [List.getElem?_take, List.getElem?_drop] using this
      have h2 : (xs.map (·.1))[i]? = some (DataW.lit (.string z.data.toList) : DataW H) := by simp [hb]
      rw [hxs] at h2
      simp [hs] at h2
      rw [h1, h2]
    · cases h
theorem laidPhr_eq : (Rows.laid_loop_example_g00909_impl_needPhrases : DataW Unit) = .agg ([[], ((⟨#[97, 32, 109, 97, 106, 111, 114, 105, 116, 121]⟩ : ByteArray)).data.toList, ((⟨#[116, 119, 111, 32, 116, 104, 105, 114, 100, 115]⟩ : ByteArray)).data.toList, ((⟨#[97, 108, 108]⟩ : ByteArray)).data.toList].map fun s => .lit (.string s)) := rfl
theorem phr_of_laid {laid : List (String × DataW Unit)} {W : World} (hf : laid.filter (fun x => x.1 == "loop.example/g00909/impl.needPhrases") = [("loop.example/g00909/impl.needPhrases", Rows.laid_loop_example_g00909_impl_needPhrases)]) (h : laidMetH Tryd.prog laid W) : Phr W := by
  have h1 := h.filter (fun x => x.1 == "loop.example/g00909/impl.needPhrases")
  rw [hf, laidPhr_eq] at h1
  obtain ⟨ps, ⟨g', t', cs, fuel, p, q, hg', ht', hvar, hd, _, _⟩, _⟩ := (show laidMet Tryd.prog _ W from h1)
  have hg : Tryd.prog.globalNamed "loop.example/g00909/impl.needPhrases" = some 0 := by kernel_rfl
  obtain rfl := Option.some.inj (hg.symm.trans hg')
  obtain rfl := Option.some.inj ((show (Tryd.prog.globals[0]?).map (·.type) = some 94 by kernel_rfl).symm.trans ht')
  have hs := strs_of_tab Tryd.underlying94 Tryd.underlying9 (by kernel_rfl) (by kernel_rfl) hd
  have hc : ∀ (i : Nat) (s : List UInt8), [[], ((⟨#[97, 32, 109, 97, 106, 111, 114, 105, 116, 121]⟩ : ByteArray)).data.toList, ((⟨#[116, 119, 111, 32, 116, 104, 105, 114, 100, 115]⟩ : ByteArray)).data.toList, ((⟨#[97, 108, 108]⟩ : ByteArray)).data.toList][i]? = some s → W.cell? ⟨0, i, none⟩ = some (.string ⟨s.toArray⟩) := fun i s hi => by
    have h2 := World.var?_cell hg hvar i
    have h3 := hs i s hi
    rw [h2]
    simpa using h3
  refine ⟨World.block_lt_of_cell? W _ (hc 0 _ rfl), ⟨#[]⟩, fun i s hi => ?_⟩
  match i, hi with
  | 0, hi => simp at hi; subst hi; exact hc 0 _ rfl
  | 1, hi => simp at hi; subst hi; exact hc 1 _ rfl
  | 2, hi => simp at hi; subst hi; exact hc 2 _ rfl
  | 3, hi => simp at hi; subst hi; exact hc 3 _ rfl
theorem phz_of_laid {laid : List (String × DataW Unit)} {W : World} (hf : laid.filter (fun x => x.1 == "loop.example/g00909/impl.needPhrases") = [("loop.example/g00909/impl.needPhrases", Rows.laid_loop_example_g00909_impl_needPhrases)]) (h : laidMetH Tryd.prog laid W) : Phz W := by
  have h1 := h.filter (fun x => x.1 == "loop.example/g00909/impl.needPhrases")
  rw [hf, laidPhr_eq] at h1
  obtain ⟨ps, ⟨g', t', cs, fuel, p, q, hg', ht', hvar, hd, _, _⟩, _⟩ := (show laidMet Tryd.prog _ W from h1)
  have hg : Tryd.prog.globalNamed "loop.example/g00909/impl.needPhrases" = some 0 := by kernel_rfl
  obtain rfl := Option.some.inj (hg.symm.trans hg')
  obtain rfl := Option.some.inj ((show (Tryd.prog.globals[0]?).map (·.type) = some 94 by kernel_rfl).symm.trans ht')
  have hs := strs_of_tab Tryd.underlying94 Tryd.underlying9 (by kernel_rfl) (by kernel_rfl) hd
  have hc : ∀ (i : Nat) (s : List UInt8), [[], ((⟨#[97, 32, 109, 97, 106, 111, 114, 105, 116, 121]⟩ : ByteArray)).data.toList, ((⟨#[116, 119, 111, 32, 116, 104, 105, 114, 100, 115]⟩ : ByteArray)).data.toList, ((⟨#[97, 108, 108]⟩ : ByteArray)).data.toList][i]? = some s → W.cell? ⟨0, i, none⟩ = some (.string ⟨s.toArray⟩) := fun i s hi => by
    have h2 := World.var?_cell hg hvar i
    have h3 := hs i s hi
    rw [h2]
    simpa using h3
  refine ⟨World.block_lt_of_cell? W _ (hc 0 _ rfl), fun i s hi => ?_⟩
  unfold phL at hi
  match i, hi with
  | 0, hi => simp at hi; subst hi; exact hc 0 _ rfl
  | 1, hi => simp at hi; subst hi; exact hc 1 _ rfl
  | 2, hi => simp at hi; subst hi; exact hc 2 _ rfl
  | 3, hi => simp at hi; subst hi; exact hc 3 _ rfl
end Go.Proofs.YtbnncgahepcfnaaDoor
