/- The laws of OutcomeLine and ReportText: the program's answer is the reference's. -/
import Derived.Test.YtbnncgahepcfnaaDoorDoor
import Derived.Test.YtbnncgahepcfnaaDoorTxr3
import Derived.Test.YtbnncgahepcfnaaDoorLg
import Derived.Test.YtbnncgahepcfnaaDoorRead
import Derived.Deep.RegionHeld3
namespace Go.Proofs.YtbnncgahepcfnaaDoor
open Go.RowKit Go.G9
theorem szMotionResultR_is (r : Res) (l : Int) (h0 : 0 ≤ l) (h1 : l ≤ 1048576) (w : World) : Calls Tryd.prog 10 #[.agg #[.string r.motion, .int .i64 r.need, .int .i64 r.yes, .int .i64 r.no, .int .i64 r.abst], .int .i64 l] w fun e w' => ∃ q : Int, e = .returned (.int .i64 q) ∧ -1 ≤ q ∧ q ≤ l ∧ (q < 0 ∨ True) ∧ Below w.heap.size w w' :=
  (szMotionResult_is r.motion r.need r.yes r.no r.abst l r.ok h0 h1 w).mono fun _ _ ⟨q, e, h, hb⟩ => ⟨q, e, h.1, h.2, .inr trivial, hb⟩
theorem toMotionResultR_is (r : Res) (w : World) : Calls Tryd.prog 12 #[.agg #[.string r.motion, .int .i64 r.need, .int .i64 r.yes, .int .i64 r.no, .int .i64 r.abst]] w fun e w' => e = .returned (.agg #[.string r.motion, .int .i64 r.need, .int .i64 r.yes, .int .i64 r.no, .int .i64 r.abst]) ∧ Below w.heap.size w w' := toMotionResult_is r.motion r.need r.yes r.no r.abst w
theorem strs_of_tab {H : Type} {enc : TypeId × Value → H} {P : Program} {w : World} {base : Nat} {sp : Nat → Bool} {held : Bool} {fuel : Nat} {t e : TypeId} {n : Nat} {cs : List Value} {ss : List (List UInt8)} {p : List MemPlace}
    (ht : P.underlying t = some (.array n e)) (he : P.underlying e = some .string) (hce : P.cellsOf e = 1) (hct : P.cellsOf t = n)
    (h : DataW.trod enc P w base sp held fuel t cs = some (.agg (ss.map fun s => .lit (.string s)), p)) : ∀ (i : Nat) (s : List UInt8), ss[i]? = some s → cs[i]? = some (.string ⟨s.toArray⟩) := by
  cases fuel with
  | zero => simp [DataW.trod] at h
  | succ fuel =>
    simp only [DataW.trod, ht, hce, hct, Nat.mul_one] at h
    split at h
    · rename_i hl
      obtain ⟨xs, hm, hx⟩ := Option.map_eq_some_iff.1 h
      have hxs : xs.map (·.1) = ss.map fun s => (DataW.lit (.string s) : DataW H) := by
        have := congrArg Prod.fst hx
        simpa using this
      have hxl : xs.length = n := by simpa using Lib.mapM_length hm
      have hzl : ss.length = n := by
        have := congrArg List.length hxs
        simp at this
        omega
      intro i s hs
      have hi : i < n := by have := (List.getElem?_eq_some_iff.1 hs).1; omega
      obtain ⟨b, hb, hf⟩ := Lib.mapM_at hm i i (by simp [hi])
      obtain ⟨z, hc, rfl, _⟩ := DataW.trod_string he hf
      have h1 : cs[i]? = some (.string z) := by
        have := congrArg (·[0]?) hc
        simpa [List.getElem?_take, List.getElem?_drop] using this
      have h2 : (xs.map (·.1))[i]? = some (DataW.lit (.string z.data.toList) : DataW H) := by simp [hb]
      rw [hxs] at h2
      simp [hs] at h2
      rw [h1, h2]
    · cases h
theorem laidPhr_eq : (Rows.laid_loop_example_g00909_impl_needPhrases : DataW Unit) = .agg ([[], ((⟨#[97, 32, 109, 97, 106, 111, 114, 105, 116, 121]⟩ : ByteArray)).data.toList, ((⟨#[116, 119, 111, 32, 116, 104, 105, 114, 100, 115]⟩ : ByteArray)).data.toList, ((⟨#[97, 108, 108]⟩ : ByteArray)).data.toList].map fun s => .lit (.string s)) := rfl
theorem phr_of_laid {laid : List (String × DataW Unit)} {W : World} (hf : laid.filter (fun x => x.1 == "loop.example/g00909/impl.needPhrases") = [("loop.example/g00909/impl.needPhrases", Rows.laid_loop_example_g00909_impl_needPhrases)]) (h : laidMetH Tryd.prog laid W) : Phr W := by
  have h1 := h.filter (fun x => x.1 == "loop.example/g00909/impl.needPhrases")
  rw [hf, laidPhr_eq] at h1
  obtain ⟨ps, ⟨g', t', cs, fuel, p, q, hg', ht', hvar, hd, _, _⟩, _⟩ := (show laidMet Tryd.prog _ W from h1)
  have hg : Tryd.prog.globalNamed "loop.example/g00909/impl.needPhrases" = some 0 := by kernel_rfl
  obtain rfl := Option.some.inj (hg.symm.trans hg')
  obtain rfl := Option.some.inj ((show (Tryd.prog.globals[0]?).map (·.type) = some 94 by kernel_rfl).symm.trans ht')
  have hs := strs_of_tab Tryd.underlying94 Tryd.underlying9 (by kernel_rfl) (by kernel_rfl) hd
  have hc : ∀ (i : Nat) (s : List UInt8), [[], ((⟨#[97, 32, 109, 97, 106, 111, 114, 105, 116, 121]⟩ : ByteArray)).data.toList, ((⟨#[116, 119, 111, 32, 116, 104, 105, 114, 100, 115]⟩ : ByteArray)).data.toList, ((⟨#[97, 108, 108]⟩ : ByteArray)).data.toList][i]? = some s → W.cell? ⟨0, i, none⟩ = some (.string ⟨s.toArray⟩) := fun i s hi => by
    have h2 := World.var?_cell hg hvar i
    have h3 := hs i s hi
    rw [h2]
    simpa using h3
  refine ⟨World.block_lt_of_cell? W _ (hc 0 _ rfl), ⟨#[]⟩, fun i s hi => ?_⟩
  match i, hi with
  | 0, hi => simp at hi; subst hi; exact hc 0 _ rfl
  | 1, hi => simp at hi; subst hi; exact hc 1 _ rfl
  | 2, hi => simp at hi; subst hi; exact hc 2 _ rfl
  | 3, hi => simp at hi; subst hi; exact hc 3 _ rfl
set_option maxHeartbeats 8000000 in
set_option maxRecDepth 100000 in
theorem law_outcomeLine (r : Res) (w : World) (HT : TabP w) :
  Calls Tryd.prog 3 #[.agg #[.string r.motion, .int .i64 r.need, .int .i64 r.yes, .int .i64 r.no, .int .i64 r.abst]] w fun e w' => e = .returned (.bool true) ∧ Below w.heap.size w w' := by
  obtain ⟨vs, vb, hv⟩ := olOut_form r
  have HV := Lib.hid hv; clear hv
  go_enter Tryd.func3, Tryd.ntmps3
  go_wp2_with fail
  refine (szMotionResultR_is r  1048576 (by omega) (by omega) _).mono ?_
  rintro e w1 ⟨r0, rfl, hr0, hs0, hl0, hb1⟩
  have hq1 : Below w.heap.size w w1 := bth (by repeat (first | exact Below.refl _ _ | refine Below.alloc ?_ (by first | exact Nat.le_refl _ | (simp <;> omega)) _ | refine Below.setCell ?_ (by first | exact Nat.le_refl _ | (simp <;> omega)) _)) hb1
  have z1 := hq1.size
  have HB : Below w.heap.size w w1 := hq1
  have X1 : Blk w1 (w.heap.size) 25 #[.string r.motion, .int .i64 r.need, .int .i64 r.yes, .int .i64 r.no, .int .i64 r.abst] := Blk.below (by repeat (first | exact Blk.new _ _ _ | refine Blk.alloc ?_ _)) hb1 (by simp <;> omega)
  have yX1 := X1.lt
  have X1_0 := (X1.cell 0).trans (show _ = some (.string r.motion) from rfl)
  have X1_1 := (X1.cell 1).trans (show _ = some (.int .i64 r.need) from rfl)
  have X1_2 := (X1.cell 2).trans (show _ = some (.int .i64 r.yes) from rfl)
  have X1_3 := (X1.cell 3).trans (show _ = some (.int .i64 r.no) from rfl)
  have X1_4 := (X1.cell 4).trans (show _ = some (.int .i64 r.abst) from rfl)
  by_cases h00 : r0 < 0
  · go_wp2
    go_ret
    exact ⟨rfl, bth HB (by repeat (first | exact Below.refl _ _ | refine Below.alloc ?_ (by first | exact Nat.le_refl _ | (simp <;> omega)) _ | refine Below.setCell ?_ (by first | exact Nat.le_refl _ | (simp <;> omega)) _))⟩
  clear X1_0 X1_1 X1_2 X1_3 X1_4
  clear hl0
  have X1_0 := (X1.cell 0).trans (show _ = some (.string r.motion) from rfl)
  have X1_1 := (X1.cell 1).trans (show _ = some (.int .i64 r.need) from rfl)
  have X1_2 := (X1.cell 2).trans (show _ = some (.int .i64 r.yes) from rfl)
  have X1_3 := (X1.cell 3).trans (show _ = some (.int .i64 r.no) from rfl)
  have X1_4 := (X1.cell 4).trans (show _ = some (.int .i64 r.abst) from rfl)
  go_wp2_with fail
  refine (toMotionResultR_is r  _ ).mono ?_
  rintro e w2 ⟨rfl, hb2⟩
  clear X1_0 X1_1 X1_2 X1_3 X1_4
  have hq2 : Below w1.heap.size w1 w2 := bth (by repeat (first | exact Below.refl _ _ | refine Below.alloc ?_ (by first | exact Nat.le_refl _ | (simp <;> omega)) _ | refine Below.setCell ?_ (by first | exact Nat.le_refl _ | (simp <;> omega)) _)) hb2
  have z2 := hq2.size
  replace HB := bth HB hq2
  replace X1 := X1.below hq2 X1.lt
  have X1_0 := (X1.cell 0).trans (show _ = some (.string r.motion) from rfl)
  have X1_1 := (X1.cell 1).trans (show _ = some (.int .i64 r.need) from rfl)
  have X1_2 := (X1.cell 2).trans (show _ = some (.int .i64 r.yes) from rfl)
  have X1_3 := (X1.cell 3).trans (show _ = some (.int .i64 r.no) from rfl)
  have X1_4 := (X1.cell 4).trans (show _ = some (.int .i64 r.abst) from rfl)
  go_wp2_with fail
  refine (sOutcomeLine_is r  _ HV.out _ ).mono ?_
  rintro e w3 ⟨rfl, hb3⟩
  clear X1_0 X1_1 X1_2 X1_3 X1_4
  have hq3 : Below w2.heap.size w2 w3 := bth (by repeat (first | exact Below.refl _ _ | refine Below.alloc ?_ (by first | exact Nat.le_refl _ | (simp <;> omega)) _ | refine Below.setCell ?_ (by first | exact Nat.le_refl _ | (simp <;> omega)) _)) hb3
  have z3 := hq3.size
  replace HB := bth HB hq3
  replace X1 := X1.below hq3 X1.lt
  have X1_0 := (X1.cell 0).trans (show _ = some (.string r.motion) from rfl)
  have X1_1 := (X1.cell 1).trans (show _ = some (.int .i64 r.need) from rfl)
  have X1_2 := (X1.cell 2).trans (show _ = some (.int .i64 r.yes) from rfl)
  have X1_3 := (X1.cell 3).trans (show _ = some (.int .i64 r.no) from rfl)
  have X1_4 := (X1.cell 4).trans (show _ = some (.int .i64 r.abst) from rfl)
  go_wp2_with fail
  refine (toMotionResultR_is r  _ ).mono ?_
  rintro e w4 ⟨rfl, hb4⟩
  clear X1_0 X1_1 X1_2 X1_3 X1_4
  have hq4 : Below w3.heap.size w3 w4 := bth (by repeat (first | exact Below.refl _ _ | refine Below.alloc ?_ (by first | exact Nat.le_refl _ | (simp <;> omega)) _ | refine Below.setCell ?_ (by first | exact Nat.le_refl _ | (simp <;> omega)) _)) hb4
  have z4 := hq4.size
  replace HB := bth HB hq4
  replace X1 := X1.below hq4 X1.lt
  have X1_0 := (X1.cell 0).trans (show _ = some (.string r.motion) from rfl)
  have X1_1 := (X1.cell 1).trans (show _ = some (.int .i64 r.need) from rfl)
  have X1_2 := (X1.cell 2).trans (show _ = some (.int .i64 r.yes) from rfl)
  have X1_3 := (X1.cell 3).trans (show _ = some (.int .i64 r.no) from rfl)
  have X1_4 := (X1.cell 4).trans (show _ = some (.int .i64 r.abst) from rfl)
  go_wp2_with fail
  refine (iOutcomeLine_is r  _ HV.out _  (HT.below (bth HB (by repeat (first | exact Below.refl _ _ | refine Below.alloc ?_ (by first | exact Nat.le_refl _ | (simp <;> omega)) _ | refine Below.setCell ?_ (by first | exact Nat.le_refl _ | (simp <;> omega)) _))))).mono ?_
  rintro e w5 ⟨rfl, hb5⟩
  clear X1_0 X1_1 X1_2 X1_3 X1_4
  have hq5 : Below w4.heap.size w4 w5 := bth (by repeat (first | exact Below.refl _ _ | refine Below.alloc ?_ (by first | exact Nat.le_refl _ | (simp <;> omega)) _ | refine Below.setCell ?_ (by first | exact Nat.le_refl _ | (simp <;> omega)) _)) hb5
  have z5 := hq5.size
  replace HB := bth HB hq5
  replace X1 := X1.below hq5 X1.lt
  have X1_0 := (X1.cell 0).trans (show _ = some (.string r.motion) from rfl)
  have X1_1 := (X1.cell 1).trans (show _ = some (.int .i64 r.need) from rfl)
  have X1_2 := (X1.cell 2).trans (show _ = some (.int .i64 r.yes) from rfl)
  have X1_3 := (X1.cell 3).trans (show _ = some (.int .i64 r.no) from rfl)
  have X1_4 := (X1.cell 4).trans (show _ = some (.int .i64 r.abst) from rfl)
  go_wp2
  go_ret
  exact ⟨rfl, bth HB (by repeat (first | exact Below.refl _ _ | refine Below.alloc ?_ (by first | exact Nat.le_refl _ | (simp <;> omega)) _ | refine Below.setCell ?_ (by first | exact Nat.le_refl _ | (simp <;> omega)) _))⟩
set_option maxHeartbeats 8000000 in
set_option maxRecDepth 100000 in
theorem law_reportText (Axs : Option Addr) (cxs : Nat) (xs : List Res) (hxs : xs.length ≤ maxLen) (w : World) (Rxs : Rds 5 Res.cells w Axs xs) (HT : TabP w) :
  Calls Tryd.prog 4 #[.slice Axs xs.length cxs] w fun e w' => e = .returned (.bool true) ∧ Below w.heap.size w w' := by
  obtain ⟨vs, vb, hv⟩ := rtOut_form xs
  have HV := Lib.hid hv; clear hv
  go_enter Tryd.func4, Tryd.ntmps4
  go_wp2_with fail
  refine (szMotionResultS_is Axs cxs xs hxs 1048576 (by omega) (by omega) _ (Rxs.below (by repeat (first | exact Below.refl _ _ | refine Below.alloc ?_ (by first | exact Nat.le_refl _ | (simp <;> omega)) _ | refine Below.setCell ?_ (by first | exact Nat.le_refl _ | (simp <;> omega)) _)))).mono ?_
  rintro e w1 ⟨r0, rfl, hr0, hs0, hl0, hb1⟩
  have hq1 : Below w.heap.size w w1 := bth (by repeat (first | exact Below.refl _ _ | refine Below.alloc ?_ (by first | exact Nat.le_refl _ | (simp <;> omega)) _ | refine Below.setCell ?_ (by first | exact Nat.le_refl _ | (simp <;> omega)) _)) hb1
  have z1 := hq1.size
  have HB : Below w.heap.size w w1 := hq1
  by_cases h00 : r0 < 0
  · go_wp2
    go_ret
    exact ⟨rfl, bth HB (by repeat (first | exact Below.refl _ _ | refine Below.alloc ?_ (by first | exact Nat.le_refl _ | (simp <;> omega)) _ | refine Below.setCell ?_ (by first | exact Nat.le_refl _ | (simp <;> omega)) _))⟩
  have hxs' : xs.length ≤ 1048576 := by omega
  clear hl0
  go_wp2_with fail
  refine (toMotionResultS_is Axs cxs xs hxs' _ (Rxs.below (bth HB (by repeat (first | exact Below.refl _ _ | refine Below.alloc ?_ (by first | exact Nat.le_refl _ | (simp <;> omega)) _ | refine Below.setCell ?_ (by first | exact Nat.le_refl _ | (simp <;> omega)) _))))).mono ?_
  rintro e w2 ⟨As0, rfl, Os0, hb2⟩
  have hq2 : Below w1.heap.size w1 w2 := bth (by repeat (first | exact Below.refl _ _ | refine Below.alloc ?_ (by first | exact Nat.le_refl _ | (simp <;> omega)) _ | refine Below.setCell ?_ (by first | exact Nat.le_refl _ | (simp <;> omega)) _)) hb2
  have z2 := hq2.size
  replace HB := bth HB hq2
  have ins0 : Within [.slice As0 xs.length xs.length] (w1.heap.size) (w2.heap.size) := by
    intro v hv k hk
    simp only [List.mem_cons, List.not_mem_nil, or_false] at hv
    subst hv
    have h := Os0.lt k hk; (try simp at h); omega
  go_wp2_with fail
  refine (sReportText_is As0 xs.length xs hxs' _ HV.out _ (Os0.rds.below (by repeat (first | exact Below.refl _ _ | refine Below.alloc ?_ (by first | exact Nat.le_refl _ | (simp <;> omega)) _ | refine Below.setCell ?_ (by first | exact Nat.le_refl _ | (simp <;> omega)) _)))).mono ?_
  rintro e w3 ⟨rfl, hb3⟩
  have hq3 : Below w2.heap.size w2 w3 := bth (by repeat (first | exact Below.refl _ _ | refine Below.alloc ?_ (by first | exact Nat.le_refl _ | (simp <;> omega)) _ | refine Below.setCell ?_ (by first | exact Nat.le_refl _ | (simp <;> omega)) _)) hb3
  have z3 := hq3.size
  replace HB := bth HB hq3
  replace Os0 := Os0.later hq3
  go_wp2_with fail
  refine (toMotionResultS_is Axs cxs xs hxs' _ (Rxs.below (bth HB (by repeat (first | exact Below.refl _ _ | refine Below.alloc ?_ (by first | exact Nat.le_refl _ | (simp <;> omega)) _ | refine Below.setCell ?_ (by first | exact Nat.le_refl _ | (simp <;> omega)) _))))).mono ?_
  rintro e w4 ⟨Ax0, rfl, Ox0, hb4⟩
  have hq4 : Below w3.heap.size w3 w4 := bth (by repeat (first | exact Below.refl _ _ | refine Below.alloc ?_ (by first | exact Nat.le_refl _ | (simp <;> omega)) _ | refine Below.setCell ?_ (by first | exact Nat.le_refl _ | (simp <;> omega)) _)) hb4
  have z4 := hq4.size
  replace HB := bth HB hq4
  have inx0 : Within [.slice Ax0 xs.length xs.length] (w3.heap.size) (w4.heap.size) := by
    intro v hv k hk
    simp only [List.mem_cons, List.not_mem_nil, or_false] at hv
    subst hv
    have h := Ox0.lt k hk; (try simp at h); omega
  go_wp2_with fail
  refine (iReportText_is Ax0 xs.length xs hxs' _ HV.out _ (Ox0.rds.below (by repeat (first | exact Below.refl _ _ | refine Below.alloc ?_ (by first | exact Nat.le_refl _ | (simp <;> omega)) _ | refine Below.setCell ?_ (by first | exact Nat.le_refl _ | (simp <;> omega)) _))) (HT.below (bth HB (by repeat (first | exact Below.refl _ _ | refine Below.alloc ?_ (by first | exact Nat.le_refl _ | (simp <;> omega)) _ | refine Below.setCell ?_ (by first | exact Nat.le_refl _ | (simp <;> omega)) _))))).mono ?_
  rintro e w5 ⟨rfl, hb5⟩
  have hq5 : Below w4.heap.size w4 w5 := bth (by repeat (first | exact Below.refl _ _ | refine Below.alloc ?_ (by first | exact Nat.le_refl _ | (simp <;> omega)) _ | refine Below.setCell ?_ (by first | exact Nat.le_refl _ | (simp <;> omega)) _)) hb5
  have z5 := hq5.size
  replace HB := bth HB hq5
  replace Ox0 := Ox0.later hq5
  go_wp2_with fail
  refine (toMotionResultS_is Axs cxs xs hxs' _ (Rxs.below (bth HB (by repeat (first | exact Below.refl _ _ | refine Below.alloc ?_ (by first | exact Nat.le_refl _ | (simp <;> omega)) _ | refine Below.setCell ?_ (by first | exact Nat.le_refl _ | (simp <;> omega)) _))))).mono ?_
  rintro e w6 ⟨Ay0, rfl, Oy0, hb6⟩
  have hq6 : Below w5.heap.size w5 w6 := bth (by repeat (first | exact Below.refl _ _ | refine Below.alloc ?_ (by first | exact Nat.le_refl _ | (simp <;> omega)) _ | refine Below.setCell ?_ (by first | exact Nat.le_refl _ | (simp <;> omega)) _)) hb6
  have z6 := hq6.size
  replace HB := bth HB hq6
  replace Ox0 := Ox0.later hq6
  have iny0 : Within [.slice Ay0 xs.length xs.length] (w5.heap.size) (w6.heap.size) := by
    intro v hv k hk
    simp only [List.mem_cons, List.not_mem_nil, or_false] at hv
    subst hv
    have h := Oy0.lt k hk; (try simp at h); omega
  go_wp2_with fail
  refine (eqMotionResultS_is Ax0 Ay0 xs.length xs.length xs hxs' _ (Ox0.rds.below (by repeat (first | exact Below.refl _ _ | refine Below.alloc ?_ (by first | exact Nat.le_refl _ | (simp <;> omega)) _ | refine Below.setCell ?_ (by first | exact Nat.le_refl _ | (simp <;> omega)) _))) (Oy0.rds.below (by repeat (first | exact Below.refl _ _ | refine Below.alloc ?_ (by first | exact Nat.le_refl _ | (simp <;> omega)) _ | refine Below.setCell ?_ (by first | exact Nat.le_refl _ | (simp <;> omega)) _)))).mono ?_
  rintro e w7 ⟨rfl, hb7⟩
  have hq7 : Below w6.heap.size w6 w7 := bth (by repeat (first | exact Below.refl _ _ | refine Below.alloc ?_ (by first | exact Nat.le_refl _ | (simp <;> omega)) _ | refine Below.setCell ?_ (by first | exact Nat.le_refl _ | (simp <;> omega)) _)) hb7
  have z7 := hq7.size
  replace HB := bth HB hq7
  replace Ox0 := Ox0.later hq7
  replace Oy0 := Oy0.later hq7
  go_wp2
  go_ret
  exact ⟨rfl, bth HB (by repeat (first | exact Below.refl _ _ | refine Below.alloc ?_ (by first | exact Nat.le_refl _ | (simp <;> omega)) _ | refine Below.setCell ?_ (by first | exact Nat.le_refl _ | (simp <;> omega)) _))⟩
open Go.ChangeShapes Go.WideShapes Go.ChangeAt Go.Deep
theorem outcomeLine_reads (os : Os) {H : Type} (enc : TypeId × Value → H) : ∃ places, DataW.whole enc Tryd.prog ((laidWorld os).forCall (fun _ _ => 0) ⟨#[], #[.agg #[.string ⟨#[]⟩, .int .i64 0, .int .i64 0, .int .i64 0, .int .i64 0]], []⟩).memory Tryd.f3.params.toList Rows.fnExactOutcomeLineSpec.vars false (#[.agg #[.string ⟨#[]⟩, .int .i64 0, .int .i64 0, .int .i64 0, .int .i64 0]] : Array Value).toList 8 = some ([.agg [.lit (.string []), .lit (.int .i64 0), .agg [.lit (.int .i64 0), .lit (.int .i64 0), .lit (.int .i64 0)]]], [Rows.laid_loop_example_g00909_impl_needPhrases], places) :=
  reads_of (by kernel_rfl)
theorem outcomeLine_met (os : Os) : laidMet Tryd.prog Rows.fnExactOutcomeLineRow.laid ((laidWorld os).forCall (fun _ _ => 0) ⟨#[], #[.agg #[.string ⟨#[]⟩, .int .i64 0, .int .i64 0, .int .i64 0, .int .i64 0]], []⟩).memory :=
  laidMet_of_run' 8 (by kernel_rfl) (by kernel_rfl)
set_option maxRecDepth 100000 in
theorem outcomeLine_lifted (os : Os) (started : os.Started) (H : Type) (enc : TypeId × Value → H) (F : Stop.Interp) :
    ReturnsInHanded {} Tryd.checked os 3 .any ((OpenSpec.ofChange Rows.fnExactOutcomeLineSpec).preRow enc Tryd.prog Tryd.f3 Rows.fnExactOutcomeLineRow.domain false Rows.fnExactOutcomeLineRow.laid) (((OpenSpec.ofChange Rows.fnExactOutcomeLineSpec).at F).post enc Tryd.prog Tryd.f3 false true false false) := by
  obtain ⟨places, hx⟩ := outcomeLine_reads os enc
  refine door_lift (C := Tryd.checked) (rt := 4) prog_own started (by kernel_rfl) Tryd.func3
    (witness_row_at (enc := enc) (C := Tryd.checked) false (laidWorld os) #[.agg #[.string ⟨#[]⟩, .int .i64 0, .int .i64 0, .int .i64 0, .int .i64 0]] rfl (by kernel_rfl) (by kernel_rfl) (by kernel_rfl) (OpenSpec.preRow_of_cond 8 hx (by kernel_rfl) (fun k hk => by cases hk) (by kernel_rfl) (outcomeLine_met os)))
    prog_laid (by rw [Tryd.params3]; intro t ht; simp at ht; rcases ht with rfl; all_goals exact ⟨by kernel_rfl, of_decide_eq_true (by kernel_rfl)⟩) rfl Tryd.underlying4 (by kernel_rfl)
    (by rw [Tryd.params3]; intro l g hl hg; match l, g, hl, hg with | [d0], [g0], _, _ => rfl) ?_
  intro W base args ds p hL hsh hval hA
  rw [Tryd.params3] at hA hval
  obtain ⟨v0, d0, rfl, rfl, h0⟩ := trodAll_one hA
  obtain ⟨cs_0, rfl, _⟩ := okWide_struct Tryd.underlying25 (hval 0 25 v0 rfl rfl)
  obtain ⟨fuel_0, f_0⟩ := h0
  obtain ⟨r, e_0⟩ := rd_Res f_0
  rw [agg_of_list (cs := cs_0) e_0]
  exact law_outcomeLine r W ⟨tab_of_laid rfl hL, phr_of_laid rfl hL⟩
theorem outcomeLine_said : Rows.FnExactOutcomeLineSaid :=
  OpenClaim.holds_of_cond 3 Tryd.f3 rfl rfl rfl rfl rfl rfl rfl ⟨rfl, rfl, rfl, rfl, rfl⟩ rfl rfl rfl rfl rfl (by kernel_rfl) Tryd.func3 (by kernel_rfl)
    (of_decide_eq_true (by kernel_rfl)) (by unfold Func.isWrapper; first | (rw [if_pos (by decide +kernel)]; kernel_rfl) | (rw [if_neg (by decide +kernel)]; exact ⟨rfl, rfl⟩))
    (fun os started H enc _ F => by rw [OpenClaim.pre_eq_preRow]; exact outcomeLine_lifted os started H enc F)
theorem outcomeLine_plain (f : FuncId) (fn : Func) (hf : Tryd.pinned.checked.prog.funcNamed Rows.fnExactOutcomeLineRow.func = some f) (hfn : Tryd.pinned.checked.prog.funcs[f]? = some fn) :
    Rows.fnExactOutcomeLineCard.stood.looks = Tryd.pinned.checked.prog.looks [] ∧ ∀ (j : Nat) t, fn.params[j]? = some t → Tryd.pinned.checked.prog.wantsStandIn t = false := by
  obtain rfl : f = 3 := Option.some.inj ((show Tryd.prog.funcNamed Rows.fnExactOutcomeLineRow.func = some 3 by kernel_rfl).symm.trans hf) |>.symm
  obtain rfl : fn = Tryd.f3 := (Option.some.inj (Tryd.func3.symm.trans hfn)).symm
  refine ⟨by kernel_rfl, fun j t ht => ?_⟩
  have hall : Tryd.f3.params.toList.all (fun t => !Tryd.prog.wantsStandIn t) = true := by kernel_rfl
  have hm := List.all_eq_true.1 hall t (Array.mem_toList_iff.2 (Array.mem_of_getElem? ht))
  exact (Bool.not_eq_true' _).mp hm
theorem outcomeLine_holds : Rows.FnExactOutcomeLineCardSaid :=
  Claim7.holds_tied_plain_at .later [] _ _ _ _ outcomeLine_said (fun _ h => by cases h) (by kernel_rfl) (fun _ h => by cases h) fnExactOutcomeLine_row_tie rfl ⟨rfl, rfl⟩ (by kernel_rfl) rfl outcomeLine_plain (by kernel_rfl)
#print axioms outcomeLine_holds
theorem reportText_reads (os : Os) {H : Type} (enc : TypeId × Value → H) : ∃ places, DataW.whole enc Tryd.prog ((laidWorld os).forCall (fun _ _ => 0) ⟨#[], #[.slice none 0 0], []⟩).memory Tryd.f4.params.toList Rows.fnExactReportTextSpec.vars false (#[.slice none 0 0] : Array Value).toList 8 = some ([.nil], [Rows.laid_loop_example_g00909_impl_needPhrases], places) :=
  reads_of (by kernel_rfl)
theorem reportText_met (os : Os) : laidMet Tryd.prog Rows.fnExactReportTextRow.laid ((laidWorld os).forCall (fun _ _ => 0) ⟨#[], #[.slice none 0 0], []⟩).memory :=
  laidMet_of_run' 8 (by kernel_rfl) (by kernel_rfl)
set_option maxRecDepth 100000 in
theorem reportText_lifted (os : Os) (started : os.Started) (H : Type) (enc : TypeId × Value → H) (F : Stop.Interp) :
    ReturnsInHanded {} Tryd.checked os 4 .any ((OpenSpec.ofChange Rows.fnExactReportTextSpec).preRow enc Tryd.prog Tryd.f4 Rows.fnExactReportTextRow.domain false Rows.fnExactReportTextRow.laid) (((OpenSpec.ofChange Rows.fnExactReportTextSpec).at F).post enc Tryd.prog Tryd.f4 false true false false) := by
  obtain ⟨places, hx⟩ := reportText_reads os enc
  refine door_lift (C := Tryd.checked) (rt := 4) prog_own started (by kernel_rfl) Tryd.func4
    (witness_row_at (enc := enc) (C := Tryd.checked) false (laidWorld os) #[.slice none 0 0] rfl (by kernel_rfl) (by kernel_rfl) (by kernel_rfl) (OpenSpec.preRow_of_cond 8 hx (by kernel_rfl) (fun k hk => by cases hk) (by kernel_rfl) (reportText_met os)))
    prog_laid (by rw [Tryd.params4]; intro t ht; simp at ht; rcases ht with rfl; all_goals exact ⟨by kernel_rfl, of_decide_eq_true (by kernel_rfl)⟩) rfl Tryd.underlying4 (by kernel_rfl)
    (by rw [Tryd.params4]; intro l g hl hg; match l, g, hl, hg with | [d0], [g0], _, _ => rfl) ?_
  intro W base args ds p hL hsh hval hA
  rw [Tryd.params4] at hA hval
  obtain ⟨v0, d0, rfl, rfl, h0⟩ := trodAll_one hA
  obtain ⟨a_xs, len_xs, cap_xs, rfl⟩ := okWide_slice Tryd.underlying34 (hval 0 34 v0 rfl rfl)
  obtain ⟨fuel_xs, f_xs⟩ := h0
  obtain ⟨A_xs, c_xs, xs, e_xs, l_xs, R_xs⟩ := rd_slice Res.cells 5 (by decide) Tryd.underlying34 cells_Res (fun _ _ _ h => rd_Res h) f_xs
  simp [Value.cells] at e_xs
  obtain ⟨rfl, rfl, rfl⟩ := e_xs
  exact law_reportText _ _ xs l_xs W R_xs ⟨tab_of_laid rfl hL, phr_of_laid rfl hL⟩
theorem reportText_said : Rows.FnExactReportTextSaid :=
  OpenClaim.holds_of_cond 4 Tryd.f4 rfl rfl rfl rfl rfl rfl rfl ⟨rfl, rfl, rfl, rfl, rfl⟩ rfl rfl rfl rfl rfl (by kernel_rfl) Tryd.func4 (by kernel_rfl)
    (of_decide_eq_true (by kernel_rfl)) (by unfold Func.isWrapper; first | (rw [if_pos (by decide +kernel)]; kernel_rfl) | (rw [if_neg (by decide +kernel)]; exact ⟨rfl, rfl⟩))
    (fun os started H enc _ F => by rw [OpenClaim.pre_eq_preRow]; exact reportText_lifted os started H enc F)
theorem reportText_plain (f : FuncId) (fn : Func) (hf : Tryd.pinned.checked.prog.funcNamed Rows.fnExactReportTextRow.func = some f) (hfn : Tryd.pinned.checked.prog.funcs[f]? = some fn) :
    Rows.fnExactReportTextCard.stood.looks = Tryd.pinned.checked.prog.looks [] ∧ ∀ (j : Nat) t, fn.params[j]? = some t → Tryd.pinned.checked.prog.wantsStandIn t = false := by
  obtain rfl : f = 4 := Option.some.inj ((show Tryd.prog.funcNamed Rows.fnExactReportTextRow.func = some 4 by kernel_rfl).symm.trans hf) |>.symm
  obtain rfl : fn = Tryd.f4 := (Option.some.inj (Tryd.func4.symm.trans hfn)).symm
  refine ⟨by kernel_rfl, fun j t ht => ?_⟩
  have hall : Tryd.f4.params.toList.all (fun t => !Tryd.prog.wantsStandIn t) = true := by kernel_rfl
  have hm := List.all_eq_true.1 hall t (Array.mem_toList_iff.2 (Array.mem_of_getElem? ht))
  exact (Bool.not_eq_true' _).mp hm
theorem reportText_holds : Rows.FnExactReportTextCardSaid :=
  Claim7.holds_tied_plain_at .later [] _ _ _ _ reportText_said (fun _ h => by cases h) (by kernel_rfl) (fun _ h => by cases h) fnExactReportText_row_tie rfl ⟨rfl, rfl⟩ (by kernel_rfl) rfl reportText_plain (by kernel_rfl)
#print axioms reportText_holds
end Go.Proofs.YtbnncgahepcfnaaDoor
