/- Reports as texts; headlines. -/
import Derived.Test.YtbnncgahepcfnaaDoorPr10
import Derived.Test.YtbnncgahepcfnaaDoorPr0
import Derived.ProofKit
import Derived.Carry
import Derived.Deep.Slices
namespace Go.Proofs.YtbnncgahepcfnaaDoor
open Go.RowKit Go.G9
def repTo (xs : List Res) : Nat → ByteArray
  | 0 => ⟨#[]⟩
  | k + 1 => match xs[k]? with | some r => repTo xs k ++ (r.line ++ (⟨#[10]⟩ : ByteArray)) | none => repTo xs k
def repTxt (xs : List Res) : ByteArray := repTo xs xs.length
theorem repTo_size {xs : List Res} (h : reportB xs = true) : ∀ k, (repTo xs k).size ≤ 111 * k
  | 0 => Nat.le_refl _
  | k + 1 => by
    have ih := repTo_size h k
    unfold repTo
    split
    · rename_i r hr
      have := Res.line_size r (reportB_at h hr)
      have e : ((⟨#[10]⟩ : ByteArray)).size = 1 := rfl
      simp only [ByteArray.size_append]; omega
    · omega
def TabP (w : World) : Prop := Tab w ∧ Phr w
theorem TabP.below {w w' : World} (h : TabP w) (hb : Below w.heap.size w w') : TabP w' := ⟨h.1.below hb, h.2.below hb⟩
def olOut (r : Res) : Value := if resB r then .tuple #[.string r.line, .bool true] else .tuple #[.string ⟨#[]⟩, .bool false]
theorem olOut_form (r : Res) : ∃ s b, olOut r = .tuple #[.string s, .bool b] := by unfold olOut; split <;> exact ⟨_, _, rfl⟩
theorem iOutcomeLine_is (r : Res) (v : Value) (hv : olOut r = v) (w : World) (hT : TabP w) : Calls Tryd.prog 13 #[.agg #[.string r.motion, .int .i64 r.need, .int .i64 r.yes, .int .i64 r.no, .int .i64 r.abst]] w fun e w' => e = .returned v ∧ Below w.heap.size w w' := by
  subst hv
  cases h : resB r
  · go_enter Tryd.func13, Tryd.ntmps13
    go_wp2_with fail
    refine (isResult_is r.motion r.need r.yes r.no r.abst r.ok _ h _).mono ?_
    rintro e w1 ⟨rfl, hb1⟩
    have hq1 : Below w.heap.size w w1 := bth (by repeat (first | exact Below.refl _ _ | refine Below.alloc ?_ (by first | exact Nat.le_refl _ | (simp <;> omega)) _ | refine Below.setCell ?_ (by first | exact Nat.le_refl _ | (simp <;> omega)) _)) hb1
    have HB : Below w.heap.size w w1 := hq1
    go_wp2
    go_ret2
    exact ⟨by simp [olOut, h], (bth HB (by repeat (first | exact Below.refl _ _ | refine Below.alloc ?_ (by first | exact Nat.le_refl _ | (simp <;> omega)) _ | refine Below.setCell ?_ (by first | exact Nat.le_refl _ | (simp <;> omega)) _)))⟩
  · go_enter Tryd.func13, Tryd.ntmps13
    go_wp2_with fail
    refine (isResult_is r.motion r.need r.yes r.no r.abst r.ok _ h _).mono ?_
    rintro e w1 ⟨rfl, hb1⟩
    have hq1 : Below w.heap.size w w1 := bth (by repeat (first | exact Below.refl _ _ | refine Below.alloc ?_ (by first | exact Nat.le_refl _ | (simp <;> omega)) _ | refine Below.setCell ?_ (by first | exact Nat.le_refl _ | (simp <;> omega)) _)) hb1
    have HB : Below w.heap.size w w1 := hq1
    have hA : Blk w1 (w.heap.size) 31 #[.string r.motion, .int .i64 r.need, .int .i64 r.yes, .int .i64 r.no, .int .i64 r.abst] := Blk.below (by repeat (first | exact Blk.new _ _ _ | exact Blk.new2 _ _ _ _ | exact Blk.new3 _ _ _ _ _ | exact Blk.new4 _ _ _ _ _ _ | refine Blk.alloc ?_ _)) hb1 (by simp <;> omega)
    have a0 := (hA.cell 0).trans (show _ = some (.string r.motion) from rfl)
    have a1 := (hA.cell 1).trans (show _ = some (.int .i64 r.need) from rfl)
    have a2 := (hA.cell 2).trans (show _ = some (.int .i64 r.yes) from rfl)
    have a3 := (hA.cell 3).trans (show _ = some (.int .i64 r.no) from rfl)
    have a4 := (hA.cell 4).trans (show _ = some (.int .i64 r.abst) from rfl)
    go_wp2_with fail
    refine (outcomeLine_is r h _ (hT.1.below HB) (hT.2.below HB)).mono ?_
    rintro e w2 ⟨rfl, hb2⟩
    have hq2 : Below w1.heap.size w1 w2 := bth (by repeat (first | exact Below.refl _ _ | refine Below.alloc ?_ (by first | exact Nat.le_refl _ | (simp <;> omega)) _ | refine Below.setCell ?_ (by first | exact Nat.le_refl _ | (simp <;> omega)) _)) hb2
    replace HB := bth HB hq2
    replace hA := hA.below hq2 hA.lt
    replace a0 := (hA.cell 0).trans (show _ = some (.string r.motion) from rfl)
    replace a1 := (hA.cell 1).trans (show _ = some (.int .i64 r.need) from rfl)
    replace a2 := (hA.cell 2).trans (show _ = some (.int .i64 r.yes) from rfl)
    replace a3 := (hA.cell 3).trans (show _ = some (.int .i64 r.no) from rfl)
    replace a4 := (hA.cell 4).trans (show _ = some (.int .i64 r.abst) from rfl)
    go_wp2
    go_ret2
    exact ⟨by simp [olOut, h], (bth HB (by repeat (first | exact Below.refl _ _ | refine Below.alloc ?_ (by first | exact Nat.le_refl _ | (simp <;> omega)) _ | refine Below.setCell ?_ (by first | exact Nat.le_refl _ | (simp <;> omega)) _)))⟩
theorem sOutcomeLine_is (r : Res) (v : Value) (hv : olOut r = v) (w : World) : Calls Tryd.prog 11 #[.agg #[.string r.motion, .int .i64 r.need, .int .i64 r.yes, .int .i64 r.no, .int .i64 r.abst]] w fun e w' => e = .returned v ∧ Below w.heap.size w w' := by
  subst hv
  cases h : resB r
  · go_enter Tryd.func11, Tryd.ntmps11
    go_wp2_with fail
    refine (l26One_is r.motion r.need r.yes r.no r.abst r.ok _ h _).mono ?_
    rintro e w1 ⟨rfl, hb1⟩
    have hq1 : Below w.heap.size w w1 := bth (by repeat (first | exact Below.refl _ _ | refine Below.alloc ?_ (by first | exact Nat.le_refl _ | (simp <;> omega)) _ | refine Below.setCell ?_ (by first | exact Nat.le_refl _ | (simp <;> omega)) _)) hb1
    have HB : Below w.heap.size w w1 := hq1
    go_wp2
    go_ret2
    exact ⟨by simp [olOut, h], (bth HB (by repeat (first | exact Below.refl _ _ | refine Below.alloc ?_ (by first | exact Nat.le_refl _ | (simp <;> omega)) _ | refine Below.setCell ?_ (by first | exact Nat.le_refl _ | (simp <;> omega)) _)))⟩
  · go_enter Tryd.func11, Tryd.ntmps11
    go_wp2_with fail
    refine (l26One_is r.motion r.need r.yes r.no r.abst r.ok _ h _).mono ?_
    rintro e w1 ⟨rfl, hb1⟩
    have hq1 : Below w.heap.size w w1 := bth (by repeat (first | exact Below.refl _ _ | refine Below.alloc ?_ (by first | exact Nat.le_refl _ | (simp <;> omega)) _ | refine Below.setCell ?_ (by first | exact Nat.le_refl _ | (simp <;> omega)) _)) hb1
    have HB : Below w.heap.size w w1 := hq1
    have hA : Blk w1 (w.heap.size) 31 #[.string r.motion, .int .i64 r.need, .int .i64 r.yes, .int .i64 r.no, .int .i64 r.abst] := Blk.below (by repeat (first | exact Blk.new _ _ _ | exact Blk.new2 _ _ _ _ | exact Blk.new3 _ _ _ _ _ | exact Blk.new4 _ _ _ _ _ _ | refine Blk.alloc ?_ _)) hb1 (by simp <;> omega)
    have a0 := (hA.cell 0).trans (show _ = some (.string r.motion) from rfl)
    have a1 := (hA.cell 1).trans (show _ = some (.int .i64 r.need) from rfl)
    have a2 := (hA.cell 2).trans (show _ = some (.int .i64 r.yes) from rfl)
    have a3 := (hA.cell 3).trans (show _ = some (.int .i64 r.no) from rfl)
    have a4 := (hA.cell 4).trans (show _ = some (.int .i64 r.abst) from rfl)
    go_wp2_with fail
    refine (l26Line_is r h _).mono ?_
    rintro e w2 ⟨rfl, hb2⟩
    have hq2 : Below w1.heap.size w1 w2 := bth (by repeat (first | exact Below.refl _ _ | refine Below.alloc ?_ (by first | exact Nat.le_refl _ | (simp <;> omega)) _ | refine Below.setCell ?_ (by first | exact Nat.le_refl _ | (simp <;> omega)) _)) hb2
    replace HB := bth HB hq2
    replace hA := hA.below hq2 hA.lt
    replace a0 := (hA.cell 0).trans (show _ = some (.string r.motion) from rfl)
    replace a1 := (hA.cell 1).trans (show _ = some (.int .i64 r.need) from rfl)
    replace a2 := (hA.cell 2).trans (show _ = some (.int .i64 r.yes) from rfl)
    replace a3 := (hA.cell 3).trans (show _ = some (.int .i64 r.no) from rfl)
    replace a4 := (hA.cell 4).trans (show _ = some (.int .i64 r.abst) from rfl)
    go_wp2
    go_ret2
    exact ⟨by simp [olOut, h], (bth HB (by repeat (first | exact Below.refl _ _ | refine Below.alloc ?_ (by first | exact Nat.le_refl _ | (simp <;> omega)) _ | refine Below.setCell ?_ (by first | exact Nat.le_refl _ | (simp <;> omega)) _)))⟩
set_option maxHeartbeats 1000000 in
set_option maxRecDepth 100000 in
theorem reportText_is (A : Option Addr) (c : Nat) (xs : List Res) (hr : reportB xs = true) (w : World) (hR : Rds 5 Res.cells w A xs) (hT : TabP w) :
  Calls Tryd.prog 50 #[.slice A xs.length c] w fun e w' => e = .returned (.string (repTxt xs)) ∧ Below w.heap.size w w' := by
  have hl := reportB_len hr
  go_enter Tryd.func50, Tryd.ntmps50
  go_wp2
  go_loopw [3, 8] (fun t i wr => ∃ k : Nat, k ≤ xs.length ∧ i = .int .i64 k ∧ t = .string (repTo xs k) ∧ Below w.heap.size w wr) (fun _ i _ => xs.length - (intOf i).toNat)
  case atStart => exact ⟨0, Nat.zero_le _, rfl, rfl, Below.refl _ _⟩
  case round =>
    obtain ⟨k, hk, rfl, rfl, hb⟩ := hrel
    by_cases hlt : k < xs.length
    · obtain ⟨b, off, x, rfl, hbl, hx, hcx⟩ := hR.at_ hb hlt
      have hv := reportB_at hr hx
      have hstep : repTo xs (k + 1) = repTo xs k ++ (x.line ++ (⟨#[10]⟩ : ByteArray)) := by rw [repTo, hx]
      have HS := Lib.hid hstep; clear hstep hx
      have hsz := repTo_size hr k
      have hls := x.line_size hv
      have f0 := hcx 0 _ rfl
      have f1 := hcx 1 _ rfl
      have f2 := hcx 2 _ rfl
      have f3 := hcx 3 _ rfl
      have f4 := hcx 4 _ rfl
      simp only [Nat.add_zero] at f0
      have g0 := f0 (Kin.self _)
      have g1 := f1 (Kin.self _)
      have g2 := f2 (Kin.self _)
      have g3 := f3 (Kin.self _)
      have g4 := f4 (Kin.self _)
      simp only [Kin.self] at g0
      simp only [Kin.self] at g1
      simp only [Kin.self] at g2
      simp only [Kin.self] at g3
      simp only [Kin.self] at g4
      clear hcx f0 f1 f2 f3 f4
      have HV := Lib.hid hv; clear hv
      go_wp2_with fail
      refine (outcomeLine_is x HV.out _ ((hT.1.below hb).below (bl1 _ _)) ((hT.2.below hb).below (bl1 _ _))).mono ?_
      rintro e w2 ⟨rfl, hb2⟩
      go_wp2
      go_roundw
      case rel => exact ⟨k + 1, by omega, by go_num, by rw [HS.out], bth hb (bth (bl1 _ _) hb2)⟩
      case measure => simp [intOf]; omega
    · obtain rfl : k = xs.length := by omega
      go_wp2
      go_ret
      exact ⟨rfl, hb⟩
def rtOut (xs : List Res) : Value := if reportB xs then .tuple #[.string (repTxt xs), .bool true] else .tuple #[.string ⟨#[]⟩, .bool false]
theorem rtOut_form (xs : List Res) : ∃ s b, rtOut xs = .tuple #[.string s, .bool b] := by unfold rtOut; split <;> exact ⟨_, _, rfl⟩
theorem iReportText_is (A : Option Addr) (c : Nat) (xs : List Res) (hn : xs.length ≤ 1048576) (v : Value) (hv : rtOut xs = v) (w : World) (hR : Rds 5 Res.cells w A xs) (hT : TabP w) :
  Calls Tryd.prog 17 #[.slice A xs.length c] w fun e w' => e = .returned v ∧ Below w.heap.size w w' := by
  subst hv
  cases h : reportB xs
  · go_enter Tryd.func17, Tryd.ntmps17
    go_wp2_with fail
    refine (isReport_is A c xs hn _ h _ (hR.below (by repeat (first | exact Below.refl _ _ | refine Below.alloc ?_ (by first | exact Nat.le_refl _ | (simp <;> omega)) _ | refine Below.setCell ?_ (by first | exact Nat.le_refl _ | (simp <;> omega)) _)))).mono ?_
    rintro e w1 ⟨rfl, hb1⟩
    have hq1 : Below w.heap.size w w1 := bth (by repeat (first | exact Below.refl _ _ | refine Below.alloc ?_ (by first | exact Nat.le_refl _ | (simp <;> omega)) _ | refine Below.setCell ?_ (by first | exact Nat.le_refl _ | (simp <;> omega)) _)) hb1
    have HB : Below w.heap.size w w1 := hq1
    go_wp2
    go_ret2
    exact ⟨by simp [rtOut, h], (bth HB (by repeat (first | exact Below.refl _ _ | refine Below.alloc ?_ (by first | exact Nat.le_refl _ | (simp <;> omega)) _ | refine Below.setCell ?_ (by first | exact Nat.le_refl _ | (simp <;> omega)) _)))⟩
  · go_enter Tryd.func17, Tryd.ntmps17
    go_wp2_with fail
    refine (isReport_is A c xs hn _ h _ (hR.below (by repeat (first | exact Below.refl _ _ | refine Below.alloc ?_ (by first | exact Nat.le_refl _ | (simp <;> omega)) _ | refine Below.setCell ?_ (by first | exact Nat.le_refl _ | (simp <;> omega)) _)))).mono ?_
    rintro e w1 ⟨rfl, hb1⟩
    have hq1 : Below w.heap.size w w1 := bth (by repeat (first | exact Below.refl _ _ | refine Below.alloc ?_ (by first | exact Nat.le_refl _ | (simp <;> omega)) _ | refine Below.setCell ?_ (by first | exact Nat.le_refl _ | (simp <;> omega)) _)) hb1
    have HB : Below w.heap.size w w1 := hq1
    go_wp2_with fail
    refine (reportText_is A c xs h _ (hR.below HB) (hT.below HB)).mono ?_
    rintro e w2 ⟨rfl, hb2⟩
    have hq2 : Below w1.heap.size w1 w2 := bth (by repeat (first | exact Below.refl _ _ | refine Below.alloc ?_ (by first | exact Nat.le_refl _ | (simp <;> omega)) _ | refine Below.setCell ?_ (by first | exact Nat.le_refl _ | (simp <;> omega)) _)) hb2
    replace HB := bth HB hq2
    go_wp2
    go_ret2
    exact ⟨by simp [rtOut, h], (bth HB (by repeat (first | exact Below.refl _ _ | refine Below.alloc ?_ (by first | exact Nat.le_refl _ | (simp <;> omega)) _ | refine Below.setCell ?_ (by first | exact Nat.le_refl _ | (simp <;> omega)) _)))⟩
set_option maxHeartbeats 1000000 in
set_option maxRecDepth 100000 in
theorem sReportText_is (A : Option Addr) (c : Nat) (xs : List Res) (hn : xs.length ≤ 1048576) (v : Value) (hv : rtOut xs = v) (w : World) (hR : Rds 5 Res.cells w A xs) :
  Calls Tryd.prog 15 #[.slice A xs.length c] w fun e w' => e = .returned v ∧ Below w.heap.size w w' := by
  subst hv
  cases hr : reportB xs
  · go_enter Tryd.func15, Tryd.ntmps15
    go_wp2_with fail
    refine (l26Good_is A c xs hn _ hr _ (hR.below (by repeat (first | exact Below.refl _ _ | refine Below.alloc ?_ (by first | exact Nat.le_refl _ | (simp <;> omega)) _ | refine Below.setCell ?_ (by first | exact Nat.le_refl _ | (simp <;> omega)) _)))).mono ?_
    rintro e w1 ⟨rfl, hb1⟩
    have hq1 : Below w.heap.size w w1 := bth (by repeat (first | exact Below.refl _ _ | refine Below.alloc ?_ (by first | exact Nat.le_refl _ | (simp <;> omega)) _ | refine Below.setCell ?_ (by first | exact Nat.le_refl _ | (simp <;> omega)) _)) hb1
    have HB : Below w.heap.size w w1 := hq1
    go_wp2
    go_ret2
    exact ⟨by simp [rtOut, hr], (bth HB (by repeat (first | exact Below.refl _ _ | refine Below.alloc ?_ (by first | exact Nat.le_refl _ | (simp <;> omega)) _ | refine Below.setCell ?_ (by first | exact Nat.le_refl _ | (simp <;> omega)) _)))⟩
  have hl := reportB_len hr
  go_enter Tryd.func15, Tryd.ntmps15
  go_wp2_with fail
  refine (l26Good_is A c xs hn _ hr _ (hR.below (by repeat (first | exact Below.refl _ _ | refine Below.alloc ?_ (by first | exact Nat.le_refl _ | (simp <;> omega)) _ | refine Below.setCell ?_ (by first | exact Nat.le_refl _ | (simp <;> omega)) _)))).mono ?_
  rintro e w1 ⟨rfl, hb1⟩
  have hq1 : Below w.heap.size w w1 := bth (by repeat (first | exact Below.refl _ _ | refine Below.alloc ?_ (by first | exact Nat.le_refl _ | (simp <;> omega)) _ | refine Below.setCell ?_ (by first | exact Nat.le_refl _ | (simp <;> omega)) _)) hb1
  have HB : Below w.heap.size w w1 := hq1
  go_wp2
  go_loopw [4, 5] (fun t i wr => ∃ k : Nat, k ≤ xs.length ∧ i = .int .i64 k ∧ t = .string (repTo xs k) ∧ Below w1.heap.size w1 wr) (fun _ i _ => xs.length - (intOf i).toNat)
  case atStart => exact ⟨0, Nat.zero_le _, rfl, rfl, Below.refl _ _⟩
  case round =>
    obtain ⟨k, hk, rfl, rfl, hb⟩ := hrel
    by_cases hlt : k < xs.length
    · obtain ⟨b, off, x, rfl, hbl, hx, hcx⟩ := hR.at_ (bth HB hb) hlt
      have hv := reportB_at hr hx
      have hstep : repTo xs (k + 1) = repTo xs k ++ (x.line ++ (⟨#[10]⟩ : ByteArray)) := by rw [repTo, hx]
      have HS := Lib.hid hstep; clear hstep hx
      have hsz := repTo_size hr k
      have hls := x.line_size hv
      have f0 := hcx 0 _ rfl
      have f1 := hcx 1 _ rfl
      have f2 := hcx 2 _ rfl
      have f3 := hcx 3 _ rfl
      have f4 := hcx 4 _ rfl
      simp only [Nat.add_zero] at f0
      have g0 := f0 (Kin.self _)
      have g1 := f1 (Kin.self _)
      have g2 := f2 (Kin.self _)
      have g3 := f3 (Kin.self _)
      have g4 := f4 (Kin.self _)
      simp only [Kin.self] at g0
      simp only [Kin.self] at g1
      simp only [Kin.self] at g2
      simp only [Kin.self] at g3
      simp only [Kin.self] at g4
      clear hcx f0 f1 f2 f3 f4
      have HV := Lib.hid hv; clear hv
      go_wp2_with fail
      refine (l26Line_is x HV.out _).mono ?_
      rintro e w2 ⟨rfl, hb2⟩
      go_wp2
      go_roundw
      case rel => exact ⟨k + 1, by omega, by go_num, by rw [HS.out, ByteArray.append_assoc], bth hb hb2⟩
      case measure => simp [intOf]; omega
    · obtain rfl : k = xs.length := by omega
      go_wp2
      go_ret2
      exact ⟨by simp [rtOut, hr, repTxt], bth HB hb⟩
end Go.Proofs.YtbnncgahepcfnaaDoor
/- From a law's walk to its row: the arguments opened (what a slice, a struct of the input reads as), the row's last step, for every law of this program. -/
namespace Go.G9
open Go.ChangeShapes Go.WideShapes Go.ChangeAt Go.RowKit Go.Deep
section
variable {H : Type} {enc : TypeId × Value → H} {P : Program}
theorem trodAll_below (hl : laidOutB P = true) {W W' : World} (hb : Below W.heap.size W W') : ∀ {ts : List TypeId} {vs : List Value} {ds : List (DataW H)} {ps : List MemPlace},
    (∀ t ∈ ts, P.readableRec t = true ∧ t < P.types.size) → (∀ x ∈ ps, x.block < W.heap.size) → DataW.TrodAll enc P W 0 (fun _ => true) true ts vs ds ps →
    DataW.TrodAll enc P W' 0 (fun b => decide (b < W.heap.size)) true ts vs ds ps
  | [], [], [], _, _, _, h => h
  | t :: ts, v :: vs, d :: ds, ps, ht, hlt, h => by
    obtain ⟨p, q, h1, h2, e⟩ := h
    have ht0 := ht t (List.mem_cons.2 (Or.inl rfl))
    exact ⟨p, q, Below.trod hl ht0.1 ht0.2 h1 hb (fun x hx => hlt x (by rw [e]; exact List.mem_append_left _ hx)),
      trodAll_below hl hb (fun t' h' => ht t' (List.mem_cons.2 (Or.inr h'))) (fun x hx => hlt x (by rw [e]; exact List.mem_append_right _ hx)) h2, e⟩
  | [], [], _ :: _, _, _, _, h => h.elim
  | [], _ :: _, _, _, _, _, h => h.elim
  | _ :: _, [], _, _, _, _, h => h.elim
  | _ :: _, _ :: _, [], _, _, _, h => h.elim
theorem trodAll_len {w : World} {base : Nat} {sp : Nat → Bool} {hd : Bool} : ∀ {ts : List TypeId} {vs : List Value} {ds : List (DataW H)} {ps : List MemPlace}, DataW.TrodAll enc P w base sp hd ts vs ds ps → ds.length = ts.length
  | [], [], [], _, _ => rfl
  | _ :: _, _ :: _, _ :: _, _, h => by obtain ⟨_, _, _, h2, _⟩ := h; simp [trodAll_len h2]
  | [], [], _ :: _, _, h => h.elim
  | [], _ :: _, _, _, h => h.elim
  | _ :: _, [], _, _, h => h.elim
  | _ :: _, _ :: _, [], _, h => h.elim

/-- THE ROW'S LAST STEP, FOR A LAW: it answers true and nothing that was there has turned. -/
theorem law_post {fn : Func} {s : ChangeSpec} {W W' : World} {args : Array Value} {ds gs : List (DataW H)} {before : List MemPlace} {rt : TypeId}
    (hlaid : laidOutB P = true) (hread : ∀ t ∈ fn.params.toList, P.readableRec t = true ∧ t < P.types.size) (hrt : fn.resultTypes = #[rt]) (hbool : P.underlying rt = some .bool) (hvars : s.vars = [])
    (hspec : ∀ l : List (DataW H), l.length = fn.params.toList.length → s.fn H (l ++ []) = { results := [.lit (.bool true)], args := l })
    (hW : DataW.Whole enc P fn.params.toList s.vars false W args.toList ds gs before) (hb : Below W.heap.size W W') : s.post enc P fn false true false false W args (.bool true) W' := by
  have hlt := hW.lt
  have hW' := hW
  obtain ⟨p, q, hA, hV, rfl, hfz, hnd⟩ := hW
  rw [hvars] at hV
  obtain ⟨rfl, rfl⟩ := trodVars_none hV
  have hsp := hspec ds (trodAll_len hA)
  refine ⟨ds, [], p ++ [], [], p, [], hW', ?_, ?_, ?_, hb.frame _, fun h => by cases h⟩
  · rw [hsp, hrt]; exact trodAll_mk1 (shut_bool hbool true)
  · rw [hsp]; exact trodAll_below hlaid hb hread (fun x hx => hlt x (by simpa using hx)) hA
  · rw [hsp, hvars]; rfl

/-- FROM THE WALK TO THE LIFTED CLAIM. -/
theorem law_lift {C : Checked} {os : Os} {f : FuncId} {fn : Func} {s : ChangeSpec} {rt : TypeId} (own : ownKnob C.prog.godebug = none) (started : os.Started) (noInit : C.prog.inits.idxOf? f = none) (hfn : C.prog.funcs[f]? = some fn)
    (witness : ∃ (w : World) (tape : Tape) (i : Input), w.os = os ∧ (w.forCall tape i).Shaped C.prog ∧ i.vars = [] ∧ Input.okWide C.prog (w.forCall tape i) .any w.heap.size f i ∧
      s.pre6 enc C.prog fn [] false (w.forCall tape i).memory i.args ∧ ({} : Assume).holds C.prog (lone (Frame.enter C.prog f i.args .normal) [] (w.forCall tape i)))
    (hlaid : laidOutB C.prog = true) (hread : ∀ t ∈ fn.params.toList, C.prog.readableRec t = true ∧ t < C.prog.types.size) (hrt : fn.resultTypes = #[rt]) (hbool : C.prog.underlying rt = some .bool) (hvars : s.vars = [])
    (hspec : ∀ l : List (DataW H), l.length = fn.params.toList.length → s.fn H (l ++ []) = { results := [.lit (.bool true)], args := l })
    (walk : ∀ (W : World) (base : Nat) (args : Array Value) (ds : List (DataW H)) (p : List MemPlace), (∀ (j : Nat) t v, fn.params[j]? = some t → args[j]? = some v → Value.okWide C.prog W .any base t v) →
      DataW.TrodAll enc C.prog W 0 (fun _ => true) true fn.params.toList args.toList ds p → Calls C.prog f args W fun e W' => e = .returned (.bool true) ∧ Below W.heap.size W W') :
    ReturnsInHanded {} C os f .any (s.pre6 enc C.prog fn [] false) (s.post enc C.prog fn false true false false) := by
  refine returnsInHanded_of_change (C := C) own started noInit hfn witness ?_
  intro W base args ds gs before hval hW _ _
  have hW' := hW
  obtain ⟨p, q, hA, _, _, _, _⟩ := hW
  exact (walk W base args ds p hval hA).mono fun e W' ⟨he, hb⟩ => ⟨_, he, law_post hlaid hread hrt hbool hvars hspec hW' hb⟩

variable {w : World} {base : Nat} {sp : Nat → Bool} {hd : Bool}
/-- A field of a struct that reads. -/
theorem rd_at {fs : Array Field} {xs : List (DataW H × List MemPlace)} {n : Nat} {cs : List Value} (hlen : xs.length = fs.size)
    (hg : ∀ (i : Nat) (f : Field), fs[i]? = some f → DataW.trod enc P w base sp hd n f.type ((cs.drop f.offset).take (P.cellsOf f.type)) = xs[i]?) (i : Nat) (f : Field) (hf : fs[i]? = some f) :
    ∃ y, DataW.trod enc P w base sp hd n f.type ((cs.drop f.offset).take (P.cellsOf f.type)) = some y := by
  have hi : i < xs.length := by have := (Array.getElem?_eq_some_iff.1 hf).1; omega
  exact ⟨xs[i], (hg i f hf).trans (List.getElem?_eq_getElem hi)⟩
theorem rd_sub_at {k : Nat} {fs : Array Field} {xs : List (DataW H × List MemPlace)} {n : Nat} {cs : List Value} (hlen : xs.length = fs.size)
    (hg : ∀ (i : Nat) (f : Field), fs[i]? = some f → DataW.trod enc P w base sp hd n f.type ((cs.drop f.offset).take (P.cellsOf f.type)) = xs[i]?) (i : Nat) (f : Field) (hf : fs[i]? = some f)
    (hk : P.cellsOf f.type = k) : ∃ y, DataW.trod enc P w base sp hd n f.type ((cs.drop f.offset).take k) = some y := by
  obtain ⟨y, h⟩ := rd_at hlen hg i f hf
  rw [hk] at h
  exact ⟨y, h⟩
theorem rd_int_at {k : IntKind} {fs : Array Field} {xs : List (DataW H × List MemPlace)} {n : Nat} {cs : List Value} (hlen : xs.length = fs.size)
    (hg : ∀ (i : Nat) (f : Field), fs[i]? = some f → DataW.trod enc P w base sp hd n f.type ((cs.drop f.offset).take (P.cellsOf f.type)) = xs[i]?) (i : Nat) (f : Field) (hf : fs[i]? = some f)
    (hu : P.underlying f.type = some (.int k)) (h1 : P.cellsOf f.type = 1) : ∃ m : Int, (cs.drop f.offset).take 1 = [.int k m] := by
  obtain ⟨_, h⟩ := rd_at hlen hg i f hf
  rw [h1] at h
  obtain ⟨m, e, _, _⟩ := DataW.trod_int hu h
  exact ⟨m, e⟩
theorem rd_string_at {fs : Array Field} {xs : List (DataW H × List MemPlace)} {n : Nat} {cs : List Value} (hlen : xs.length = fs.size)
    (hg : ∀ (i : Nat) (f : Field), fs[i]? = some f → DataW.trod enc P w base sp hd n f.type ((cs.drop f.offset).take (P.cellsOf f.type)) = xs[i]?) (i : Nat) (f : Field) (hf : fs[i]? = some f)
    (hu : P.underlying f.type = some .string) (h1 : P.cellsOf f.type = 1) : ∃ s : ByteArray, (cs.drop f.offset).take 1 = [.string s] ∧ s.size ≤ maxLen := by
  obtain ⟨_, h⟩ := rd_at hlen hg i f hf
  rw [h1] at h
  obtain ⟨m, e, _, hm⟩ := DataW.trod_string hu h
  exact ⟨m, e, hm⟩
theorem rd_bool_at {fs : Array Field} {xs : List (DataW H × List MemPlace)} {n : Nat} {cs : List Value} (hlen : xs.length = fs.size)
    (hg : ∀ (i : Nat) (f : Field), fs[i]? = some f → DataW.trod enc P w base sp hd n f.type ((cs.drop f.offset).take (P.cellsOf f.type)) = xs[i]?) (i : Nat) (f : Field) (hf : fs[i]? = some f)
    (hu : P.underlying f.type = some .bool) (h1 : P.cellsOf f.type = 1) : ∃ b : Bool, (cs.drop f.offset).take 1 = [.bool b] := by
  obtain ⟨_, h⟩ := rd_at hlen hg i f hf
  rw [h1] at h
  obtain ⟨m, e, _⟩ := DataW.trod_bool hu h
  exact ⟨m, e⟩
theorem spot_of_cell {w : World} {a : Addr} {v : Value} (h : w.cell? a = some v) : a.spot = none := by
  unfold World.cell? at h
  split at h
  · split at h
    · cases h
    · rename_i hs; simpa using hs
  · cases h
/-- A slice that reads, each element as f of a thing of type T; a nil slice is told. -/
theorem rd_slicen {T : Type} (f : T → List Value) (sz : Nat) (hsz : 0 < sz) {t e : TypeId} (ht : P.underlying t = some (.slice e)) (hC : P.cellsOf e = sz)
    (helem : ∀ fuel cs x, DataW.trod enc P w base sp hd fuel e cs = some x → ∃ y : T, cs = f y) {fuel : Nat} {cs : List Value} {x : DataW H × List MemPlace} (h : DataW.trod enc P w base sp hd fuel t cs = some x) :
    ∃ (A : Option Addr) (c : Nat) (xs : List T), cs = [.slice A xs.length c] ∧ xs.length ≤ maxLen ∧ Rds sz f w A xs ∧ (A = none → xs = [] ∧ c = 0) := by
  rcases open_slice ht h with ⟨rfl, _⟩ | ⟨a, len, cap, m, n, D, Pl, rfl, _, hlc, hcm, hm, _, hi⟩
  · exact ⟨none, 0, [], rfl, by simp, Rds.nil, fun _ => ⟨rfl, rfl⟩⟩
  · have hle : len ≤ m := by rw [hm]; split <;> omega
    have hex : ∀ i, i < len → ∃ y : T, w.cells? base (a.add (i * sz)) sz = some (f y) := fun i hil => by
      obtain ⟨cs', hcs, htr⟩ := hi i (by omega)
      obtain ⟨y, rfl⟩ := helem _ _ _ htr
      exact ⟨y, by rw [hC] at hcs; exact hcs⟩
    have hall : ∀ k, k ≤ len → ∃ l : List T, l.length = k ∧ ∀ i y, l[i]? = some y → w.cells? base (a.add (i * sz)) sz = some (f y) := by
      intro k
      induction k with
      | zero => intro _; exact ⟨[], rfl, by simp⟩
      | succ k ih =>
        intro hk
        obtain ⟨l, hll, hlc⟩ := ih (by omega)
        obtain ⟨y, hy⟩ := hex k (by omega)
        refine ⟨l ++ [y], by simp [hll], fun i z hz => ?_⟩
        rw [List.getElem?_append] at hz
        split at hz
        · exact hlc i z hz
        · have h0 : i = k := by have := (List.getElem?_eq_some_iff.1 hz).1; simp at this; omega
          subst h0
          rw [hll] at hz; simp at hz; subst hz; exact hy
    obtain ⟨l, hll, hcell⟩ := hall len (Nat.le_refl _)
    refine ⟨some a, cap, l, by rw [hll], by omega, fun hn => ?_, fun h => by cases h⟩
    have at0 : ∀ i y, l[i]? = some y → ∀ j u, (f y)[j]? = some u → w.cell? ((a.add (i * sz)).add j) = some u := fun i y hy j u hu => by
      obtain ⟨_, hcl, hat⟩ := World.cells?_some (hcell i y hy)
      have hj : j < sz := by rw [← hcl]; exact (List.getElem?_eq_some_iff.1 hu).1
      rw [hat j hj]; exact hu
    obtain ⟨y0, hy0⟩ : ∃ y, l[0]? = some y := ⟨_, List.getElem?_eq_getElem hn⟩
    obtain ⟨_, hcl0, _⟩ := World.cells?_some (hcell 0 y0 hy0)
    have hu0 : (f y0)[0]? = some ((f y0)[0]'(by omega)) := List.getElem?_eq_getElem _
    have c0 := at0 0 y0 hy0 0 _ hu0
    rw [Nat.zero_mul, show (a.add 0).add 0 = a from by simp [Addr.add]] at c0
    have hs := spot_of_cell c0
    obtain ⟨b, off, spot⟩ := a
    simp only at hs; subst hs
    refine ⟨b, off, rfl, World.block_lt_of_cell? w _ c0, fun i x hx j u hu => ?_⟩
    have := at0 i x hx j u hu
    rw [add_add] at this
    rw [← this]
    congr 1
    unfold Addr.add
    split <;> simp_all [Nat.add_assoc]
theorem rd_slice {T : Type} (f : T → List Value) (sz : Nat) (hsz : 0 < sz) {t e : TypeId} (ht : P.underlying t = some (.slice e)) (hC : P.cellsOf e = sz)
    (helem : ∀ fuel cs x, DataW.trod enc P w base sp hd fuel e cs = some x → ∃ y : T, cs = f y) {fuel : Nat} {cs : List Value} {x : DataW H × List MemPlace} (h : DataW.trod enc P w base sp hd fuel t cs = some x) :
    ∃ (A : Option Addr) (c : Nat) (xs : List T), cs = [.slice A xs.length c] ∧ xs.length ≤ maxLen ∧ Rds sz f w A xs := by
  obtain ⟨A, c, xs, h1, h2, h3, _⟩ := rd_slicen f sz hsz ht hC helem h
  exact ⟨A, c, xs, h1, h2, h3⟩
theorem agg_of_list {cs : Array Value} {l : List Value} (h : cs.toList = l) : Value.agg cs = .agg l.toArray := by rw [← h]
end
end Go.G9
