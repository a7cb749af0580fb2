/- The law of ParseReport: the program's answer is the reference's, and the result is its own memory. -/
import Derived.Test.YtbnncgahepcfnaaDoorPr20
import Derived.Test.YtbnncgahepcfnaaDoorPr9
import Derived.Test.YtbnncgahepcfnaaDoorPr7
import Derived.Deep.RegionHeld3
import Derived.Test.YtbnncgahepcfnaaDoorPr8
import Derived.Test.YtbnncgahepcfnaaDoorPr11
import Derived.Test.YtbnncgahepcfnaaDoorRows
import Derived.Test.YtbnncgahepcfnaaDoorPr5
import Derived.Test.YtbnncgahepcfnaaDoorTie
import Derived.Test.YtbnncgahepcfnaaDoorCards
import Derived.Deep.DeepHandedRow
import Derived.Lib.LaidTab
import Derived.OpenVars
import Derived.Test.YtbnncgahepcfnaaDoorPr12
import Derived.Test.YtbnncgahepcfnaaDoorPr6
import Derived.ChangeMaps5
import Derived.Lay
import Derived.Stop.LaidErr
import Derived.Shelf.Vars
import Derived.Deep.DeepWitnessRowRef
import Derived.Test.YtbnncgahepcfnaaDoorPr18
namespace Go.Proofs.YtbnncgahepcfnaaDoor
open Go.RowKit Go.G9
/-- What the tables and the limits of the program must be for a report to be read. -/
def Tbz (w : World) : Prop := Tab w ∧ Esy w ∧ Mxl w ∧ Phz w
theorem Tbz.below {w w' : World} (h : Tbz w) (hb : Below w.heap.size w w') : Tbz w' := ⟨h.1.below hb, h.2.1.below hb, h.2.2.1.below hb, h.2.2.2.below hb⟩
theorem iParseReportZ_is (s : ByteArray) (hs : s.size ≤ 1048576) (w : World) (HT : Tbz w) : Calls Tryd.prog 40 #[.string s] w fun e w' => ∃ A m, e = .returned (.tuple #[.slice A (prL s).length m, .bool (prB s)]) ∧ OwnV w.heap.size 31 5 Res.cells w' (.slice A (prL s).length m) (prL s) ∧ Below w.heap.size w w' := iParseReport_is s hs w HT.1 HT.2.1 HT.2.2.1 HT.2.2.2
set_option maxHeartbeats 8000000 in
set_option maxRecDepth 100000 in
theorem law_parseReport (s : ByteArray) (hs : s.size ≤ maxLen) (w : World) (HT : Tbz w) :
  Calls Tryd.prog 9 #[.string s] w fun e w' => e = .returned (.bool true) ∧ Below w.heap.size w w' := by
  by_cases hs' : s.size ≤ 1048576
  case neg =>
    unfold maxLen at hs
    go_enter Tryd.func9, Tryd.ntmps9
    go_wp2
    go_ret
    exact ⟨rfl, by repeat (first | exact Below.refl _ _ | refine Below.alloc ?_ (by first | exact Nat.le_refl _ | (simp <;> omega)) _ | refine Below.setCell ?_ (by first | exact Nat.le_refl _ | (simp <;> omega)) _)⟩
  go_enter Tryd.func9, Tryd.ntmps9
  go_wp2_with fail
  refine (sParseReport_is s hs' _ ).mono ?_
  rintro e w1 ⟨Aw0, cw0, rfl, Ow0, hb1⟩
  have hq1 : Below w.heap.size w w1 := bth (by repeat (first | exact Below.refl _ _ | refine Below.alloc ?_ (by first | exact Nat.le_refl _ | (simp <;> omega)) _ | refine Below.setCell ?_ (by first | exact Nat.le_refl _ | (simp <;> omega)) _)) hb1
  have z1 := hq1.size
  have HB : Below w.heap.size w w1 := hq1
  have inw0 : Within [.slice Aw0 (prL s).length cw0] (w.heap.size) (w1.heap.size) := by
    intro v hv k hk
    simp only [List.mem_cons, List.not_mem_nil, or_false] at hv
    subst hv
    have h := Ow0.lt k hk; (try simp at h); omega
  go_wp2_with fail
  refine (iParseReportZ_is s hs' _  (HT.below (bth HB (by repeat (first | exact Below.refl _ _ | refine Below.alloc ?_ (by first | exact Nat.le_refl _ | (simp <;> omega)) _ | refine Below.setCell ?_ (by first | exact Nat.le_refl _ | (simp <;> omega)) _))))).mono ?_
  rintro e w2 ⟨Ag0, cg0, rfl, Og0, hb2⟩
  have hq2 : Below w1.heap.size w1 w2 := bth (by repeat (first | exact Below.refl _ _ | refine Below.alloc ?_ (by first | exact Nat.le_refl _ | (simp <;> omega)) _ | refine Below.setCell ?_ (by first | exact Nat.le_refl _ | (simp <;> omega)) _)) hb2
  have z2 := hq2.size
  replace HB := bth HB hq2
  replace Ow0 := Ow0.later hq2
  have ing0 : Within [.slice Ag0 (prL s).length cg0] (w1.heap.size) (w2.heap.size) := by
    intro v hv k hk
    simp only [List.mem_cons, List.not_mem_nil, or_false] at hv
    subst hv
    have h := Og0.lt k hk; (try simp at h); omega
  go_wp2_with fail
  refine (eqMotionResultS_is Ag0 Aw0 cg0 cw0 (prL s) (prL_len s) _ (Og0.rds.below (by repeat (first | exact Below.refl _ _ | refine Below.alloc ?_ (by first | exact Nat.le_refl _ | (simp <;> omega)) _ | refine Below.setCell ?_ (by first | exact Nat.le_refl _ | (simp <;> omega)) _))) (Ow0.rds.below (by repeat (first | exact Below.refl _ _ | refine Below.alloc ?_ (by first | exact Nat.le_refl _ | (simp <;> omega)) _ | refine Below.setCell ?_ (by first | exact Nat.le_refl _ | (simp <;> omega)) _)))).mono ?_
  rintro e w3 ⟨rfl, hb3⟩
  have hq3 : Below w2.heap.size w2 w3 := bth (by repeat (first | exact Below.refl _ _ | refine Below.alloc ?_ (by first | exact Nat.le_refl _ | (simp <;> omega)) _ | refine Below.setCell ?_ (by first | exact Nat.le_refl _ | (simp <;> omega)) _)) hb3
  have z3 := hq3.size
  replace HB := bth HB hq3
  replace Ow0 := Ow0.later hq3
  replace Og0 := Og0.later hq3
  go_wp2_with fail
  refine (mkMotionResultS_is _ Ag0 cg0 (prL s) (prL_len s) (1) (by omega) (by omega) _ Og0).mono ?_
  rintro e w4 ⟨rfl, M4_0, hg4⟩
  have HG4 := grownL_one hg4
  have z4 := HG4.size
  replace HB := HB.trans (HG4.below ing0 (by omega) HB.size)
  replace Ow0 := Ow0.keptL HG4 inw0 ing0 (by simp) (by omega)
  go_wp2_with fail
  refine (hdMotionResultS_is Ag0 cg0 _ (prL_len s) (1) (by omega) (by omega) _ (M4_0.rds.below (by repeat (first | exact Below.refl _ _ | refine Below.alloc ?_ (by first | exact Nat.le_refl _ | (simp <;> omega)) _ | refine Below.setCell ?_ (by first | exact Nat.le_refl _ | (simp <;> omega)) _)))).mono ?_
  rintro e w5 ⟨rfl, hb5⟩
  have hq5 : Below w4.heap.size w4 w5 := bth (by repeat (first | exact Below.refl _ _ | refine Below.alloc ?_ (by first | exact Nat.le_refl _ | (simp <;> omega)) _ | refine Below.setCell ?_ (by first | exact Nat.le_refl _ | (simp <;> omega)) _)) hb5
  have z5 := hq5.size
  replace HB := bth HB hq5
  replace Ow0 := Ow0.later hq5
  replace M4_0 := M4_0.later hq5
  go_wp2_with fail
  refine (iParseReportZ_is s hs' _  (HT.below (bth HB (by repeat (first | exact Below.refl _ _ | refine Below.alloc ?_ (by first | exact Nat.le_refl _ | (simp <;> omega)) _ | refine Below.setCell ?_ (by first | exact Nat.le_refl _ | (simp <;> omega)) _))))).mono ?_
  rintro e w6 ⟨Ah0, ch0, rfl, Oh0, hb6⟩
  have hq6 : Below w5.heap.size w5 w6 := bth (by repeat (first | exact Below.refl _ _ | refine Below.alloc ?_ (by first | exact Nat.le_refl _ | (simp <;> omega)) _ | refine Below.setCell ?_ (by first | exact Nat.le_refl _ | (simp <;> omega)) _)) hb6
  have z6 := hq6.size
  replace HB := bth HB hq6
  replace Ow0 := Ow0.later hq6
  replace M4_0 := M4_0.later hq6
  have inh0 : Within [.slice Ah0 (prL s).length ch0] (w5.heap.size) (w6.heap.size) := by
    intro v hv k hk
    simp only [List.mem_cons, List.not_mem_nil, or_false] at hv
    subst hv
    have h := Oh0.lt k hk; (try simp at h); omega
  go_wp2_with fail
  refine (eqMotionResultS_is Ah0 Aw0 ch0 cw0 (prL s) (prL_len s) _ (Oh0.rds.below (by repeat (first | exact Below.refl _ _ | refine Below.alloc ?_ (by first | exact Nat.le_refl _ | (simp <;> omega)) _ | refine Below.setCell ?_ (by first | exact Nat.le_refl _ | (simp <;> omega)) _))) (Ow0.rds.below (by repeat (first | exact Below.refl _ _ | refine Below.alloc ?_ (by first | exact Nat.le_refl _ | (simp <;> omega)) _ | refine Below.setCell ?_ (by first | exact Nat.le_refl _ | (simp <;> omega)) _)))).mono ?_
  rintro e w7 ⟨rfl, hb7⟩
  have hq7 : Below w6.heap.size w6 w7 := bth (by repeat (first | exact Below.refl _ _ | refine Below.alloc ?_ (by first | exact Nat.le_refl _ | (simp <;> omega)) _ | refine Below.setCell ?_ (by first | exact Nat.le_refl _ | (simp <;> omega)) _)) hb7
  have z7 := hq7.size
  replace HB := bth HB hq7
  replace Ow0 := Ow0.later hq7
  replace M4_0 := M4_0.later hq7
  replace Oh0 := Oh0.later hq7
  go_wp2_with fail
  refine (hdMotionResultS_is Ag0 cg0 _ (prL_len s) (1) (by omega) (by omega) _ (M4_0.rds.below (by repeat (first | exact Below.refl _ _ | refine Below.alloc ?_ (by first | exact Nat.le_refl _ | (simp <;> omega)) _ | refine Below.setCell ?_ (by first | exact Nat.le_refl _ | (simp <;> omega)) _)))).mono ?_
  rintro e w8 ⟨rfl, hb8⟩
  have hq8 : Below w7.heap.size w7 w8 := bth (by repeat (first | exact Below.refl _ _ | refine Below.alloc ?_ (by first | exact Nat.le_refl _ | (simp <;> omega)) _ | refine Below.setCell ?_ (by first | exact Nat.le_refl _ | (simp <;> omega)) _)) hb8
  have z8 := hq8.size
  replace HB := bth HB hq8
  replace Ow0 := Ow0.later hq8
  replace M4_0 := M4_0.later hq8
  replace Oh0 := Oh0.later hq8
  go_wp2
  go_ret
  exact ⟨rfl, bth HB (by repeat (first | exact Below.refl _ _ | refine Below.alloc ?_ (by first | exact Nat.le_refl _ | (simp <;> omega)) _ | refine Below.setCell ?_ (by first | exact Nat.le_refl _ | (simp <;> omega)) _))⟩
end Go.Proofs.YtbnncgahepcfnaaDoor
/- What the inputs of the laws read as: the reader of each struct, over this program. -/
namespace Go.Proofs.YtbnncgahepcfnaaDoor
open Go.ChangeShapes Go.WideShapes Go.ChangeAt Go.RowKit Go.Deep Go.G9
theorem prog_own : ownKnob Tryd.prog.godebug = none := by kernel_rfl
theorem prog_laid : laidOutB Tryd.prog = true := by kernel_rfl
theorem cells_int : Tryd.prog.cellsOf 3 = 1 := by kernel_rfl
theorem cells_string : Tryd.prog.cellsOf 9 = 1 := by kernel_rfl
theorem cells_bool : Tryd.prog.cellsOf 4 = 1 := by kernel_rfl
section
variable {H : Type} {enc : TypeId × Value → H} {w : World} {base : Nat} {sp : Nat → Bool} {hd : Bool} {fuel : Nat} {cs : List Value} {x : DataW H × List MemPlace}
theorem cells_Res : Tryd.prog.cellsOf 25 = 5 := by kernel_rfl
theorem cells_Tally : Tryd.prog.cellsOf 23 = 3 := by kernel_rfl
set_option maxRecDepth 100000 in
theorem rd_Res (h : DataW.trod enc Tryd.prog w base sp hd fuel 25 cs = some x) : ∃ y : Res, cs = y.cells := by
  obtain ⟨xs, n, rfl, _, hl, hlen, hg⟩ := DataW.trod_struct Tryd.underlying25 h
  match cs, hl.trans cells_Res with
  | [c0, c1, c2, c3, c4], _ =>
    obtain ⟨n0, e0, k0⟩ := rd_string_at hlen hg 0 _ rfl Tryd.underlying9 cells_string
    obtain ⟨n1, e1⟩ := rd_int_at hlen hg 1 _ rfl Tryd.underlying3 cells_int
    obtain ⟨_, h2'⟩ := rd_sub_at hlen hg 2 _ rfl cells_Tally
    obtain ⟨xs', n', rfl, _, hl', hlen', hg'⟩ := DataW.trod_struct Tryd.underlying23 h2'
    obtain ⟨n2, e2⟩ := rd_int_at hlen' hg' 0 _ rfl Tryd.underlying3 cells_int
    obtain ⟨n3, e3⟩ := rd_int_at hlen' hg' 1 _ rfl Tryd.underlying3 cells_int
    obtain ⟨n4, e4⟩ := rd_int_at hlen' hg' 2 _ rfl Tryd.underlying3 cells_int
    simp at e0 e1 e2 e3 e4
    exact ⟨⟨n0, n1, n2, n3, n4, k0⟩, by simp_all [Res.cells]⟩
theorem rd_Int (h : DataW.trod enc Tryd.prog w base sp hd fuel 3 cs = some x) : ∃ y : Int, cs = intC y := by
  obtain ⟨n, rfl, _, _⟩ := DataW.trod_int Tryd.underlying3 h
  exact ⟨n, rfl⟩
end
end Go.Proofs.YtbnncgahepcfnaaDoor
/- From a law's walk to the row that lists the library's tables, and to its card. -/
namespace Go.G9
open Go.ChangeShapes Go.WideShapes Go.ChangeAt Go.RowKit Go.Deep
theorem trodVars_len {H : Type} {enc : TypeId × Value → H} {P : Program} {w : World} {sp : Nat → Bool} : ∀ {ns : List String} {gs : List (DataW H)} {ps : List MemPlace}, DataW.TrodVars enc P w sp ns gs ps → gs.length = ns.length
  | [], [], _, _ => rfl
  | _ :: _, _ :: _, _, h => by obtain ⟨_, _, _, _, _, _, _, _, _, _, h2, _⟩ := h; simp [trodVars_len h2]
  | [], _ :: _, _, h => h.elim
  | _ :: _, [], _, h => h.elim
theorem law_postv {H : Type} {enc : TypeId × Value → H} {P : Program} {fn : Func} {s : ChangeSpec} {W W' : World} {args : Array Value} {ds gs : List (DataW H)} {before : List MemPlace} {rt : TypeId}
    (hlaid : laidOutB P = true) (hread : ∀ t ∈ fn.params.toList, P.readableRec t = true ∧ t < P.types.size) (hrt : fn.resultTypes = #[rt]) (hbool : P.underlying rt = some .bool) (hvars : varsRowed P s.vars = true)
    (hspec : ∀ l g : List (DataW H), l.length = fn.params.toList.length → g.length = s.vars.length → s.fn H (l ++ g) = { results := [.lit (.bool true)], args := l, vars := g })
    (hW : DataW.Whole enc P fn.params.toList s.vars false W args.toList ds gs before) (hb : Below W.heap.size W W') : s.post enc P fn false true false false W args (.bool true) W' := by
  have hlt := hW.lt
  have hW' := hW
  obtain ⟨p, q, hA, hV, rfl, hfz, hnd⟩ := hW
  have hsp := hspec ds gs (trodAll_len hA) (trodVars_len hV)
  refine ⟨ds, gs, p ++ q, [], p, q, hW', ?_, ?_, ?_, hb.frame _, fun h => by cases h⟩
  · rw [hsp, hrt]; exact trodAll_mk1 (shut_bool hbool true)
  · rw [hsp]; exact trodAll_below hlaid hb hread (fun x hx => hlt x (List.mem_append_left _ hx)) hA
  · rw [hsp]; exact Below.trodVars hlaid hb hvars hV
theorem door_lift {H : Type} {enc : TypeId × Value → H} {C : Checked} {os : Os} {f : FuncId} {fn : Func} {s : ChangeSpec} {F : Stop.Interp} {rt : TypeId} {laid : List (String × DataW Unit)} (own : ownKnob C.prog.godebug = none) (started : os.Started) (noInit : C.prog.inits.idxOf? f = none) (hfn : C.prog.funcs[f]? = some fn)
    (witness : ∃ (w : World) (tape : Tape) (i : Input), w.os = os ∧ (w.forCall tape i).Shaped C.prog ∧ i.vars = [] ∧ Input.okWide C.prog (w.forCall tape i) .any w.heap.size f i ∧
      (OpenSpec.ofChange s).preRow enc C.prog fn [] false laid (w.forCall tape i).memory i.args ∧ ({} : Assume).holds C.prog (lone (Frame.enter C.prog f i.args .normal) [] (w.forCall tape i)))
    (hlaid : laidOutB C.prog = true) (hread : ∀ t ∈ fn.params.toList, C.prog.readableRec t = true ∧ t < C.prog.types.size) (hrt : fn.resultTypes = #[rt]) (hbool : C.prog.underlying rt = some .bool) (hvars : varsRowed C.prog s.vars = true)
    (hspec : ∀ l g : List (DataW H), l.length = fn.params.toList.length → g.length = s.vars.length → s.fn H (l ++ g) = { results := [.lit (.bool true)], args := l, vars := g })
    (walk : ∀ (W : World) (base : Nat) (args : Array Value) (ds : List (DataW H)) (p : List MemPlace), laidMetH C.prog laid W → W.ShapedOpen C.prog → (∀ (j : Nat) t v, fn.params[j]? = some t → args[j]? = some v → Value.okWide C.prog W .any base t v) →
      DataW.TrodAll enc C.prog W 0 (fun _ => true) true fn.params.toList args.toList ds p → Calls C.prog f args W fun e W' => e = .returned (.bool true) ∧ Below W.heap.size W W') :
    ReturnsInHanded {} C os f .any ((OpenSpec.ofChange s).preRow enc C.prog fn [] false laid) (((OpenSpec.ofChange s).at F).post enc C.prog fn false true false false) := by
  refine returnsInHanded_of_row (C := C) (s := OpenSpec.ofChange s) own started noInit hfn witness ?_
  intro W base args ds gs before hval hW _ _ _ hL hsh _
  have hW' := hW
  obtain ⟨p, q, hA, _, _, _, _⟩ := hW
  exact (walk W base args ds p hL hsh hval hA).mono fun e W' ⟨he, hb⟩ => ⟨_, he, law_postv (s := s) hlaid hread hrt hbool hvars hspec hW' hb⟩
theorem reads_of {α β γ : Type} {x : Option (α × β × γ)} {a : α} {b : β} (h : x.map (fun y => (y.1, y.2.1)) = some (a, b)) : ∃ c, x = some (a, b, c) := by
  cases x with
  | none => cases h
  | some y => obtain ⟨y1, y2, y3⟩ := y; simp at h; obtain ⟨rfl, rfl⟩ := h; exact ⟨y3, rfl⟩
end Go.G9
namespace Go.Proofs.YtbnncgahepcfnaaDoor
open Go.ChangeShapes Go.WideShapes Go.ChangeAt Go.RowKit Go.Deep Go.G9
noncomputable def laidWorld (os : Os) : World := { World.holding Tryd.prog os ⟨#[], #[], []⟩ with heap := ((((((World.holding Tryd.prog os ⟨#[], #[], []⟩).heap.modify 7 fun | .cells _ t frozen => .cells #[.int .u8 0, .int .u8 1, .int .u8 28, .int .u8 2, .int .u8 29, .int .u8 14, .int .u8 24, .int .u8 3, .int .u8 30, .int .u8 22, .int .u8 20, .int .u8 15, .int .u8 25, .int .u8 17, .int .u8 4, .int .u8 8, .int .u8 31, .int .u8 27, .int .u8 13, .int .u8 23, .int .u8 21, .int .u8 19, .int .u8 16, .int .u8 7, .int .u8 26, .int .u8 12, .int .u8 18, .int .u8 6, .int .u8 11, .int .u8 5, .int .u8 10, .int .u8 9] t frozen | o => o).modify 8 fun | .cells _ t frozen => .cells #[.int .u8 0, .int .u8 1, .int .u8 56, .int .u8 2, .int .u8 57, .int .u8 49, .int .u8 28, .int .u8 3, .int .u8 61, .int .u8 58, .int .u8 42, .int .u8 50, .int .u8 38, .int .u8 29, .int .u8 17, .int .u8 4, .int .u8 62, .int .u8 47, .int .u8 59, .int .u8 36, .int .u8 45, .int .u8 43, .int .u8 51, .int .u8 22, .int .u8 53, .int .u8 39, .int .u8 33, .int .u8 30, .int .u8 24, .int .u8 18, .int .u8 12, .int .u8 5, .int .u8 63, .int .u8 55, .int .u8 48, .int .u8 27, .int .u8 60, .int .u8 41, .int .u8 37, .int .u8 16, .int .u8 46, .int .u8 35, .int .u8 44, .int .u8 21, .int .u8 52, .int .u8 32, .int .u8 23, .int .u8 11, .int .u8 54, .int .u8 26, .int .u8 40, .int .u8 15, .int .u8 34, .int .u8 20, .int .u8 31, .int .u8 10, .int .u8 25, .int .u8 14, .int .u8 19, .int .u8 9, .int .u8 13, .int .u8 8, .int .u8 7, .int .u8 6] t frozen | o => o).modify 2 fun | .cells _ t frozen => .cells #[.int .u64 1, .int .u64 10, .int .u64 100, .int .u64 1000, .int .u64 10000, .int .u64 100000, .int .u64 1000000, .int .u64 10000000, .int .u64 100000000, .int .u64 1000000000, .int .u64 10000000000, .int .u64 100000000000, .int .u64 1000000000000, .int .u64 10000000000000, .int .u64 100000000000000, .int .u64 1000000000000000, .int .u64 10000000000000000, .int .u64 100000000000000000, .int .u64 1000000000000000000, .int .u64 10000000000000000000] t frozen | o => o).modify 0 fun | .cells _ t frozen => .cells #[.string ⟨#[]⟩, .string ⟨#[97, 32, 109, 97, 106, 111, 114, 105, 116, 121]⟩, .string ⟨#[116, 119, 111, 32, 116, 104, 105, 114, 100, 115]⟩, .string ⟨#[97, 108, 108]⟩] t frozen | o => o).modify 6 fun | .cells _ t frozen => .cells #[.int .u8 128, .int .u8 191, .int .u8 160, .int .u8 191, .int .u8 128, .int .u8 159, .int .u8 144, .int .u8 191, .int .u8 128, .int .u8 143, .int .u8 0, .int .u8 0, .int .u8 0, .int .u8 0, .int .u8 0, .int .u8 0, .int .u8 0, .int .u8 0, .int .u8 0, .int .u8 0, .int .u8 0, .int .u8 0, .int .u8 0, .int .u8 0, .int .u8 0, .int .u8 0, .int .u8 0, .int .u8 0, .int .u8 0, .int .u8 0, .int .u8 0, .int .u8 0] t frozen | o => o) }
theorem laidPow_eq : (Rows.laid_internal_strconv_uint64pow10 : DataW Unit) = Lib.tabData .u64 Lib.pow10Tab := rfl
theorem tab_of_laid {laid : List (String × DataW Unit)} {W : World} (hf : laid.filter (fun x => x.1 == "internal/strconv.uint64pow10") = [("internal/strconv.uint64pow10", Rows.laid_internal_strconv_uint64pow10)]) (h : laidMetH Tryd.prog laid W) : Tab W := by
  have h1 := h.filter (fun x => x.1 == "internal/strconv.uint64pow10")
  rw [hf, laidPow_eq] at h1
  have h2 := Lib.tabIs_of_head (P := Tryd.prog) (rest := []) (t := 141) (e := 100) gPow (by kernel_rfl) Tryd.underlying141 Tryd.underlying100 (by kernel_rfl) (by kernel_rfl) h1
  refine ⟨?_, h2⟩
  have h3 := h2.cell gPow 0 (by decide)
  exact World.block_lt_of_cell? W _ h3
end Go.Proofs.YtbnncgahepcfnaaDoor
/- From a law's walk to the row that lists the library's sentinels and pinned tables. -/
namespace Go.Proofs.YtbnncgahepcfnaaDoor
open Go.RowKit Go.G9
open Go.ChangeShapes Go.WideShapes Go.ChangeAt Go.Deep
open Go.ChangeMaps
set_option maxHeartbeats 4000000
theorem errS_row (u : TypeId) (h : Tryd.prog.typeName? 3 u = some "*errors.errorString") : u = 160 :=
  typeName_ptr_named (nm := "errors.errorString") (by rw [show "*" ++ "errors.errorString" = "*errors.errorString" by decide]; kernel_rfl) (by kernel_rfl) (by decide) u (by rw [show "*" ++ "errors.errorString" = "*errors.errorString" by decide]; exact h)
theorem esy_of_laid {laid : List (String × DataW Unit)} {W : World} (hf : laid.filter (fun x => x.1 == "strconv.ErrSyntax") = [("strconv.ErrSyntax", Rows.laid_strconv_ErrSyntax)]) (h : laidMetH Tryd.prog laid W) : Esy W := by
  have h1 := h.filter (fun x => x.1 == "strconv.ErrSyntax")
  rw [hf, MakeChecks.laidMetH_plain _ _ _ (by kernel_rfl)] at h1
  obtain ⟨a0, s0, hv0, -, -, -⟩ := laid_sentinel h1 gSyn (by kernel_rfl) Tryd.underlying107 errS_row Tryd.underlying160 Tryd.underlying162 rfl rfl Tryd.underlying9 (by kernel_rfl) (by kernel_rfl)
  exact ⟨World.block_lt_of_cell? W _ (World.var?_cell gSyn hv0 0), _, _, hv0⟩
theorem mxl_of_shaped {W : World} (h : W.ShapedOpen Tryd.prog) : Mxl W := by
  obtain ⟨m, hm⟩ := cell_of_shapedOpen_int (P := Tryd.prog) (g := 1) (t := 3) (zero := #[.int .i64 0]) h (of_decide_eq_true (by kernel_rfl)) (by kernel_rfl) rfl (by kernel_rfl) (by kernel_rfl) Tryd.underlying3
  exact ⟨World.block_lt_of_cell? W _ hm, m, hm⟩
end Go.Proofs.YtbnncgahepcfnaaDoor
/- The phrases for the needs, from the row's list. -/
namespace Go.Proofs.YtbnncgahepcfnaaDoor
open Go.RowKit Go.G9
theorem szMotionResultR_is (r : Res) (l : Int) (h0 : 0 ≤ l) (h1 : l ≤ 1048576) (w : World) : Calls Tryd.prog 10 #[.agg #[.string r.motion, .int .i64 r.need, .int .i64 r.yes, .int .i64 r.no, .int .i64 r.abst], .int .i64 l] w fun e w' => ∃ q : Int, e = .returned (.int .i64 q) ∧ -1 ≤ q ∧ q ≤ l ∧ (q < 0 ∨ True) ∧ Below w.heap.size w w' :=
  (szMotionResult_is r.motion r.need r.yes r.no r.abst l r.ok h0 h1 w).mono fun _ _ ⟨q, e, h, hb⟩ => ⟨q, e, h.1, h.2, .inr trivial, hb⟩
theorem toMotionResultR_is (r : Res) (w : World) : Calls Tryd.prog 12 #[.agg #[.string r.motion, .int .i64 r.need, .int .i64 r.yes, .int .i64 r.no, .int .i64 r.abst]] w fun e w' => e = .returned (.agg #[.string r.motion, .int .i64 r.need, .int .i64 r.yes, .int .i64 r.no, .int .i64 r.abst]) ∧ Below w.heap.size w w' := toMotionResult_is r.motion r.need r.yes r.no r.abst w
theorem strs_of_tab {H : Type} {enc : TypeId × Value → H} {P : Program} {w : World} {base : Nat} {sp : Nat → Bool} {held : Bool} {fuel : Nat} {t e : TypeId} {n : Nat} {cs : List Value} {ss : List (List UInt8)} {p : List MemPlace}
    (ht : P.underlying t = some (.array n e)) (he : P.underlying e = some .string) (hce : P.cellsOf e = 1) (hct : P.cellsOf t = n)
    (h : DataW.trod enc P w base sp held fuel t cs = some (.agg (ss.map fun s => .lit (.string s)), p)) : ∀ (i : Nat) (s : List UInt8), ss[i]? = some s → cs[i]? = some (.string ⟨s.toArray⟩) := by
  cases fuel with
  | zero => simp [DataW.trod] at h
  | succ fuel =>
    simp only [DataW.trod, ht, hce, hct, Nat.mul_one] at h
    split at h
    · rename_i hl
      obtain ⟨xs, hm, hx⟩ := Option.map_eq_some_iff.1 h
      have hxs : xs.map (·.1) = ss.map fun s => (DataW.lit (.string s) : DataW H) := by
        have := congrArg Prod.fst hx
        simpa using this
      have hxl : xs.length = n := by simpa using Lib.mapM_length hm
      have hzl : ss.length = n := by
        have := congrArg List.length hxs
        simp at this
        omega
      intro i s hs
      have hi : i < n := by have := (List.getElem?_eq_some_iff.1 hs).1; omega
      obtain ⟨b, hb, hf⟩ := Lib.mapM_at hm i i (by simp [hi])
      obtain ⟨z, hc, rfl, _⟩ := DataW.trod_string he hf
      have h1 : cs[i]? = some (.string z) := by
        have := congrArg (·[0]?) hc
        simpa [List.getElem?_take, List.getElem?_drop] using this
      have h2 : (xs.map (·.1))[i]? = some (DataW.lit (.string z.data.toList) : DataW H) := by simp [hb]
      rw [hxs] at h2
      simp [hs] at h2
      rw [h1, h2]
    · cases h
theorem laidPhr_eq : (Rows.laid_loop_example_g00909_impl_needPhrases : DataW Unit) = .agg ([[], ((⟨#[97, 32, 109, 97, 106, 111, 114, 105, 116, 121]⟩ : ByteArray)).data.toList, ((⟨#[116, 119, 111, 32, 116, 104, 105, 114, 100, 115]⟩ : ByteArray)).data.toList, ((⟨#[97, 108, 108]⟩ : ByteArray)).data.toList].map fun s => .lit (.string s)) := rfl
theorem phr_of_laid {laid : List (String × DataW Unit)} {W : World} (hf : laid.filter (fun x => x.1 == "loop.example/g00909/impl.needPhrases") = [("loop.example/g00909/impl.needPhrases", Rows.laid_loop_example_g00909_impl_needPhrases)]) (h : laidMetH Tryd.prog laid W) : Phr W := by
  have h1 := h.filter (fun x => x.1 == "loop.example/g00909/impl.needPhrases")
  rw [hf, laidPhr_eq] at h1
  obtain ⟨ps, ⟨g', t', cs, fuel, p, q, hg', ht', hvar, hd, _, _⟩, _⟩ := (show laidMet Tryd.prog _ W from h1)
  have hg : Tryd.prog.globalNamed "loop.example/g00909/impl.needPhrases" = some 0 := by kernel_rfl
  obtain rfl := Option.some.inj (hg.symm.trans hg')
  obtain rfl := Option.some.inj ((show (Tryd.prog.globals[0]?).map (·.type) = some 94 by kernel_rfl).symm.trans ht')
  have hs := strs_of_tab Tryd.underlying94 Tryd.underlying9 (by kernel_rfl) (by kernel_rfl) hd
  have hc : ∀ (i : Nat) (s : List UInt8), [[], ((⟨#[97, 32, 109, 97, 106, 111, 114, 105, 116, 121]⟩ : ByteArray)).data.toList, ((⟨#[116, 119, 111, 32, 116, 104, 105, 114, 100, 115]⟩ : ByteArray)).data.toList, ((⟨#[97, 108, 108]⟩ : ByteArray)).data.toList][i]? = some s → W.cell? ⟨0, i, none⟩ = some (.string ⟨s.toArray⟩) := fun i s hi => by
    have h2 := World.var?_cell hg hvar i
    have h3 := hs i s hi
    rw [h2]
    simpa using h3
  refine ⟨World.block_lt_of_cell? W _ (hc 0 _ rfl), ⟨#[]⟩, fun i s hi => ?_⟩
  match i, hi with
  | 0, hi => simp at hi; subst hi; exact hc 0 _ rfl
  | 1, hi => simp at hi; subst hi; exact hc 1 _ rfl
  | 2, hi => simp at hi; subst hi; exact hc 2 _ rfl
  | 3, hi => simp at hi; subst hi; exact hc 3 _ rfl
theorem phz_of_laid {laid : List (String × DataW Unit)} {W : World} (hf : laid.filter (fun x => x.1 == "loop.example/g00909/impl.needPhrases") = [("loop.example/g00909/impl.needPhrases", Rows.laid_loop_example_g00909_impl_needPhrases)]) (h : laidMetH Tryd.prog laid W) : Phz W := by
  have h1 := h.filter (fun x => x.1 == "loop.example/g00909/impl.needPhrases")
  rw [hf, laidPhr_eq] at h1
  obtain ⟨ps, ⟨g', t', cs, fuel, p, q, hg', ht', hvar, hd, _, _⟩, _⟩ := (show laidMet Tryd.prog _ W from h1)
  have hg : Tryd.prog.globalNamed "loop.example/g00909/impl.needPhrases" = some 0 := by kernel_rfl
  obtain rfl := Option.some.inj (hg.symm.trans hg')
  obtain rfl := Option.some.inj ((show (Tryd.prog.globals[0]?).map (·.type) = some 94 by kernel_rfl).symm.trans ht')
  have hs := strs_of_tab Tryd.underlying94 Tryd.underlying9 (by kernel_rfl) (by kernel_rfl) hd
  have hc : ∀ (i : Nat) (s : List UInt8), [[], ((⟨#[97, 32, 109, 97, 106, 111, 114, 105, 116, 121]⟩ : ByteArray)).data.toList, ((⟨#[116, 119, 111, 32, 116, 104, 105, 114, 100, 115]⟩ : ByteArray)).data.toList, ((⟨#[97, 108, 108]⟩ : ByteArray)).data.toList][i]? = some s → W.cell? ⟨0, i, none⟩ = some (.string ⟨s.toArray⟩) := fun i s hi => by
    have h2 := World.var?_cell hg hvar i
    have h3 := hs i s hi
    rw [h2]
    simpa using h3
  refine ⟨World.block_lt_of_cell? W _ (hc 0 _ rfl), fun i s hi => ?_⟩
  unfold phL at hi
  match i, hi with
  | 0, hi => simp at hi; subst hi; exact hc 0 _ rfl
  | 1, hi => simp at hi; subst hi; exact hc 1 _ rfl
  | 2, hi => simp at hi; subst hi; exact hc 2 _ rfl
  | 3, hi => simp at hi; subst hi; exact hc 3 _ rfl
end Go.Proofs.YtbnncgahepcfnaaDoor
/- The law of ParseReport, its card. -/
namespace Go.Proofs.YtbnncgahepcfnaaDoor
open Go.RowKit Go.G9
open Go.ChangeShapes Go.WideShapes Go.ChangeAt Go.Deep
open Go.ChangeMaps
set_option maxHeartbeats 4000000
theorem parseReport_reads (os : Os) {H : Type} (enc : TypeId × Value → H) : ∃ places, DataW.whole enc Tryd.prog ((World.laidAll Tryd.prog os Rows.fnExactParseReportRow.laid).forCall (fun _ _ => 0) ⟨#[], #[.string ⟨#[]⟩], []⟩).memory Tryd.f9.params.toList Rows.fnExactParseReportSpec.vars false (#[.string ⟨#[]⟩] : Array Value).toList 8 = some ([.lit (.string [])], [Rows.laid_loop_example_g00909_impl_needPhrases], places) :=
  reads_of (by kernel_rfl)
theorem parseReport_met (os : Os) : laidMet Tryd.prog Rows.fnExactParseReportRow.laid ((World.laidAll Tryd.prog os Rows.fnExactParseReportRow.laid).forCall (fun _ _ => 0) ⟨#[], #[.string ⟨#[]⟩], []⟩).memory :=
  laidMet_laidAll _ (by kernel_rfl) (by kernel_rfl)
set_option maxRecDepth 100000 in
theorem parseReport_lifted (os : Os) (started : os.Started) (H : Type) (enc : TypeId × Value → H) (F : Stop.Interp) :
    ReturnsInHanded {} Tryd.checked os 9 .any ((OpenSpec.ofChange Rows.fnExactParseReportSpec).preRow enc Tryd.prog Tryd.f9 Rows.fnExactParseReportRow.domain false Rows.fnExactParseReportRow.laid) (((OpenSpec.ofChange Rows.fnExactParseReportSpec).at F).post enc Tryd.prog Tryd.f9 false true false false) := by
  obtain ⟨places, hx⟩ := parseReport_reads os enc
  refine door_lift (C := Tryd.checked) (rt := 4) prog_own started (by kernel_rfl) Tryd.func9
    (witness_row_atRef (enc := enc) (C := Tryd.checked) false (World.laidAll Tryd.prog os Rows.fnExactParseReportRow.laid) #[.string ⟨#[]⟩] (World.laidAll_os _ _ _) (by kernel_rfl) (by kernel_rfl) (by kernel_rfl) (OpenSpec.preRow_of_cond 8 hx (by kernel_rfl) (fun k hk => by cases hk) (by kernel_rfl) (parseReport_met os)))
    prog_laid (by rw [Tryd.params9]; intro t ht; simp at ht; rcases ht with rfl; all_goals exact ⟨by kernel_rfl, of_decide_eq_true (by kernel_rfl)⟩) rfl Tryd.underlying4 (by kernel_rfl)
    (by rw [Tryd.params9]; intro l g hl hg; match l, g, hl, hg with | [d0], [g0], _, _ => rfl) ?_
  intro W base args ds p hL hsh hval hA
  rw [Tryd.params9] at hA hval
  obtain ⟨v0, d0, rfl, rfl, h0⟩ := trodAll_one hA
  obtain ⟨s, rfl, rfl, rfl, l_s⟩ := open_string Tryd.underlying9 (hval 0 9 v0 rfl rfl) h0
  exact law_parseReport s l_s W ⟨tab_of_laid rfl hL, esy_of_laid rfl hL, mxl_of_shaped hsh, phz_of_laid rfl hL⟩
theorem parseReport_said : Rows.FnExactParseReportSaid :=
  OpenClaim.holds_of_cond 9 Tryd.f9 rfl rfl rfl rfl rfl rfl rfl ⟨rfl, rfl, rfl, rfl, rfl⟩ rfl rfl rfl rfl rfl (by kernel_rfl) Tryd.func9 (by kernel_rfl)
    (of_decide_eq_true (by kernel_rfl)) (by unfold Func.isWrapper; first | (rw [if_pos (by decide +kernel)]; kernel_rfl) | (rw [if_neg (by decide +kernel)]; exact ⟨rfl, rfl⟩))
    (fun os started H enc _ F => by rw [OpenClaim.pre_eq_preRow]; exact parseReport_lifted os started H enc F)
theorem parseReport_plain (f : FuncId) (fn : Func) (hf : Tryd.pinned.checked.prog.funcNamed Rows.fnExactParseReportRow.func = some f) (hfn : Tryd.pinned.checked.prog.funcs[f]? = some fn) :
    Rows.fnExactParseReportCard.stood.looks = Tryd.pinned.checked.prog.looks [] ∧ ∀ (j : Nat) t, fn.params[j]? = some t → Tryd.pinned.checked.prog.wantsStandIn t = false := by
  obtain rfl : f = 9 := Option.some.inj ((show Tryd.prog.funcNamed Rows.fnExactParseReportRow.func = some 9 by kernel_rfl).symm.trans hf) |>.symm
  obtain rfl : fn = Tryd.f9 := (Option.some.inj (Tryd.func9.symm.trans hfn)).symm
  refine ⟨by kernel_rfl, fun j t ht => ?_⟩
  have hall : Tryd.f9.params.toList.all (fun t => !Tryd.prog.wantsStandIn t) = true := by kernel_rfl
  have hm := List.all_eq_true.1 hall t (Array.mem_toList_iff.2 (Array.mem_of_getElem? ht))
  exact (Bool.not_eq_true' _).mp hm
theorem parseReport_holds : Rows.FnExactParseReportCardSaid :=
  Claim7.holds_tied_plain_at .later [] _ _ _ _ parseReport_said (fun _ h => by cases h) (by kernel_rfl) (fun _ h => by cases h) fnExactParseReport_row_tie rfl ⟨rfl, rfl⟩ (by kernel_rfl) rfl parseReport_plain (by kernel_rfl)
#print axioms parseReport_holds
end Go.Proofs.YtbnncgahepcfnaaDoor
