/- Reports as texts; headlines. -/
import Derived.Test.YtbnncgahepcfnaaDoorTxr2
namespace Go.Proofs.YtbnncgahepcfnaaDoor
open Go.RowKit Go.G9
def repTo (xs : List Res) : Nat → ByteArray
  | 0 => ⟨#[]⟩
  | k + 1 => match xs[k]? with | some r => repTo xs k ++ (r.line ++ (⟨#[10]⟩ : ByteArray)) | none => repTo xs k
def repTxt (xs : List Res) : ByteArray := repTo xs xs.length
theorem repTo_size {xs : List Res} (h : reportB xs = true) : ∀ k, (repTo xs k).size ≤ 111 * k
  | 0 => Nat.le_refl _
  | k + 1 => by
    have ih := repTo_size h k
    unfold repTo
    split
    · rename_i r hr
      have := Res.line_size r (reportB_at h hr)
      have e : ((⟨#[10]⟩ : ByteArray)).size = 1 := rfl
      simp only [ByteArray.size_append]; omega
    · omega
def TabP (w : World) : Prop := Tab w ∧ Phr w
theorem TabP.below {w w' : World} (h : TabP w) (hb : Below w.heap.size w w') : TabP w' := ⟨h.1.below hb, h.2.below hb⟩
def olOut (r : Res) : Value := if resB r then .tuple #[.string r.line, .bool true] else .tuple #[.string ⟨#[]⟩, .bool false]
theorem olOut_form (r : Res) : ∃ s b, olOut r = .tuple #[.string s, .bool b] := by unfold olOut; split <;> exact ⟨_, _, rfl⟩
theorem iOutcomeLine_is (r : Res) (v : Value) (hv : olOut r = v) (w : World) (hT : TabP w) : Calls Tryd.prog 13 #[.agg #[.string r.motion, .int .i64 r.need, .int .i64 r.yes, .int .i64 r.no, .int .i64 r.abst]] w fun e w' => e = .returned v ∧ Below w.heap.size w w' := by
  subst hv
  cases h : resB r
  · go_enter Tryd.func13, Tryd.ntmps13
    go_wp2_with fail
    refine (isResult_is r.motion r.need r.yes r.no r.abst r.ok _ h _).mono ?_
    rintro e w1 ⟨rfl, hb1⟩
    have hq1 : Below w.heap.size w w1 := bth (by repeat (first | exact Below.refl _ _ | refine Below.alloc ?_ (by first | exact Nat.le_refl _ | (simp <;> omega)) _ | refine Below.setCell ?_ (by first | exact Nat.le_refl _ | (simp <;> omega)) _)) hb1
    have HB : Below w.heap.size w w1 := hq1
    go_wp2
    go_ret2
    exact ⟨by simp [olOut, h], (bth HB (by repeat (first | exact Below.refl _ _ | refine Below.alloc ?_ (by first | exact Nat.le_refl _ | (simp <;> omega)) _ | refine Below.setCell ?_ (by first | exact Nat.le_refl _ | (simp <;> omega)) _)))⟩
  · go_enter Tryd.func13, Tryd.ntmps13
    go_wp2_with fail
    refine (isResult_is r.motion r.need r.yes r.no r.abst r.ok _ h _).mono ?_
    rintro e w1 ⟨rfl, hb1⟩
    have hq1 : Below w.heap.size w w1 := bth (by repeat (first | exact Below.refl _ _ | refine Below.alloc ?_ (by first | exact Nat.le_refl _ | (simp <;> omega)) _ | refine Below.setCell ?_ (by first | exact Nat.le_refl _ | (simp <;> omega)) _)) hb1
    have HB : Below w.heap.size w w1 := hq1
    have hA : Blk w1 (w.heap.size) 31 #[.string r.motion, .int .i64 r.need, .int .i64 r.yes, .int .i64 r.no, .int .i64 r.abst] := Blk.below (by repeat (first | exact Blk.new _ _ _ | exact Blk.new2 _ _ _ _ | exact Blk.new3 _ _ _ _ _ | exact Blk.new4 _ _ _ _ _ _ | refine Blk.alloc ?_ _)) hb1 (by simp <;> omega)
    have a0 := (hA.cell 0).trans (show _ = some (.string r.motion) from rfl)
    have a1 := (hA.cell 1).trans (show _ = some (.int .i64 r.need) from rfl)
    have a2 := (hA.cell 2).trans (show _ = some (.int .i64 r.yes) from rfl)
    have a3 := (hA.cell 3).trans (show _ = some (.int .i64 r.no) from rfl)
    have a4 := (hA.cell 4).trans (show _ = some (.int .i64 r.abst) from rfl)
    go_wp2_with fail
    refine (outcomeLine_is r h _ (hT.1.below HB) (hT.2.below HB)).mono ?_
    rintro e w2 ⟨rfl, hb2⟩
    have hq2 : Below w1.heap.size w1 w2 := bth (by repeat (first | exact Below.refl _ _ | refine Below.alloc ?_ (by first | exact Nat.le_refl _ | (simp <;> omega)) _ | refine Below.setCell ?_ (by first | exact Nat.le_refl _ | (simp <;> omega)) _)) hb2
    replace HB := bth HB hq2
    replace hA := hA.below hq2 hA.lt
    replace a0 := (hA.cell 0).trans (show _ = some (.string r.motion) from rfl)
    replace a1 := (hA.cell 1).trans (show _ = some (.int .i64 r.need) from rfl)
    replace a2 := (hA.cell 2).trans (show _ = some (.int .i64 r.yes) from rfl)
    replace a3 := (hA.cell 3).trans (show _ = some (.int .i64 r.no) from rfl)
    replace a4 := (hA.cell 4).trans (show _ = some (.int .i64 r.abst) from rfl)
    go_wp2
    go_ret2
    exact ⟨by simp [olOut, h], (bth HB (by repeat (first | exact Below.refl _ _ | refine Below.alloc ?_ (by first | exact Nat.le_refl _ | (simp <;> omega)) _ | refine Below.setCell ?_ (by first | exact Nat.le_refl _ | (simp <;> omega)) _)))⟩
theorem sOutcomeLine_is (r : Res) (v : Value) (hv : olOut r = v) (w : World) : Calls Tryd.prog 11 #[.agg #[.string r.motion, .int .i64 r.need, .int .i64 r.yes, .int .i64 r.no, .int .i64 r.abst]] w fun e w' => e = .returned v ∧ Below w.heap.size w w' := by
  subst hv
  cases h : resB r
  · go_enter Tryd.func11, Tryd.ntmps11
    go_wp2_with fail
    refine (l26One_is r.motion r.need r.yes r.no r.abst r.ok _ h _).mono ?_
    rintro e w1 ⟨rfl, hb1⟩
    have hq1 : Below w.heap.size w w1 := bth (by repeat (first | exact Below.refl _ _ | refine Below.alloc ?_ (by first | exact Nat.le_refl _ | (simp <;> omega)) _ | refine Below.setCell ?_ (by first | exact Nat.le_refl _ | (simp <;> omega)) _)) hb1
    have HB : Below w.heap.size w w1 := hq1
    go_wp2
    go_ret2
    exact ⟨by simp [olOut, h], (bth HB (by repeat (first | exact Below.refl _ _ | refine Below.alloc ?_ (by first | exact Nat.le_refl _ | (simp <;> omega)) _ | refine Below.setCell ?_ (by first | exact Nat.le_refl _ | (simp <;> omega)) _)))⟩
  · go_enter Tryd.func11, Tryd.ntmps11
    go_wp2_with fail
    refine (l26One_is r.motion r.need r.yes r.no r.abst r.ok _ h _).mono ?_
    rintro e w1 ⟨rfl, hb1⟩
    have hq1 : Below w.heap.size w w1 := bth (by repeat (first | exact Below.refl _ _ | refine Below.alloc ?_ (by first | exact Nat.le_refl _ | (simp <;> omega)) _ | refine Below.setCell ?_ (by first | exact Nat.le_refl _ | (simp <;> omega)) _)) hb1
    have HB : Below w.heap.size w w1 := hq1
    have hA : Blk w1 (w.heap.size) 31 #[.string r.motion, .int .i64 r.need, .int .i64 r.yes, .int .i64 r.no, .int .i64 r.abst] := Blk.below (by repeat (first | exact Blk.new _ _ _ | exact Blk.new2 _ _ _ _ | exact Blk.new3 _ _ _ _ _ | exact Blk.new4 _ _ _ _ _ _ | refine Blk.alloc ?_ _)) hb1 (by simp <;> omega)
    have a0 := (hA.cell 0).trans (show _ = some (.string r.motion) from rfl)
    have a1 := (hA.cell 1).trans (show _ = some (.int .i64 r.need) from rfl)
    have a2 := (hA.cell 2).trans (show _ = some (.int .i64 r.yes) from rfl)
    have a3 := (hA.cell 3).trans (show _ = some (.int .i64 r.no) from rfl)
    have a4 := (hA.cell 4).trans (show _ = some (.int .i64 r.abst) from rfl)
    go_wp2_with fail
    refine (l26Line_is r h _).mono ?_
    rintro e w2 ⟨rfl, hb2⟩
    have hq2 : Below w1.heap.size w1 w2 := bth (by repeat (first | exact Below.refl _ _ | refine Below.alloc ?_ (by first | exact Nat.le_refl _ | (simp <;> omega)) _ | refine Below.setCell ?_ (by first | exact Nat.le_refl _ | (simp <;> omega)) _)) hb2
    replace HB := bth HB hq2
    replace hA := hA.below hq2 hA.lt
    replace a0 := (hA.cell 0).trans (show _ = some (.string r.motion) from rfl)
    replace a1 := (hA.cell 1).trans (show _ = some (.int .i64 r.need) from rfl)
    replace a2 := (hA.cell 2).trans (show _ = some (.int .i64 r.yes) from rfl)
    replace a3 := (hA.cell 3).trans (show _ = some (.int .i64 r.no) from rfl)
    replace a4 := (hA.cell 4).trans (show _ = some (.int .i64 r.abst) from rfl)
    go_wp2
    go_ret2
    exact ⟨by simp [olOut, h], (bth HB (by repeat (first | exact Below.refl _ _ | refine Below.alloc ?_ (by first | exact Nat.le_refl _ | (simp <;> omega)) _ | refine Below.setCell ?_ (by first | exact Nat.le_refl _ | (simp <;> omega)) _)))⟩
set_option maxHeartbeats 1000000 in
set_option maxRecDepth 100000 in
theorem reportText_is (A : Option Addr) (c : Nat) (xs : List Res) (hr : reportB xs = true) (w : World) (hR : Rds 5 Res.cells w A xs) (hT : TabP w) :
  Calls Tryd.prog 50 #[.slice A xs.length c] w fun e w' => e = .returned (.string (repTxt xs)) ∧ Below w.heap.size w w' := by
  have hl := reportB_len hr
  go_enter Tryd.func50, Tryd.ntmps50
  go_wp2
  go_loopw [3, 8] (fun t i wr => ∃ k : Nat, k ≤ xs.length ∧ i = .int .i64 k ∧ t = .string (repTo xs k) ∧ Below w.heap.size w wr) (fun _ i _ => xs.length - (intOf i).toNat)
  case atStart => exact ⟨0, Nat.zero_le _, rfl, rfl, Below.refl _ _⟩
  case round =>
    obtain ⟨k, hk, rfl, rfl, hb⟩ := hrel
    by_cases hlt : k < xs.length
    · obtain ⟨b, off, x, rfl, hbl, hx, hcx⟩ := hR.at_ hb hlt
      have hv := reportB_at hr hx
      have hstep : repTo xs (k + 1) = repTo xs k ++ (x.line ++ (⟨#[10]⟩ : ByteArray)) := by rw [repTo, hx]
      have HS := Lib.hid hstep; clear hstep hx
      have hsz := repTo_size hr k
      have hls := x.line_size hv
      have f0 := hcx 0 _ rfl
      have f1 := hcx 1 _ rfl
      have f2 := hcx 2 _ rfl
      have f3 := hcx 3 _ rfl
      have f4 := hcx 4 _ rfl
      simp only [Nat.add_zero] at f0
      have g0 := f0 (Kin.self _)
      have g1 := f1 (Kin.self _)
      have g2 := f2 (Kin.self _)
      have g3 := f3 (Kin.self _)
      have g4 := f4 (Kin.self _)
      simp only [Kin.self] at g0
      simp only [Kin.self] at g1
      simp only [Kin.self] at g2
      simp only [Kin.self] at g3
      simp only [Kin.self] at g4
      clear hcx f0 f1 f2 f3 f4
      have HV := Lib.hid hv; clear hv
      go_wp2_with fail
      refine (outcomeLine_is x HV.out _ ((hT.1.below hb).below (bl1 _ _)) ((hT.2.below hb).below (bl1 _ _))).mono ?_
      rintro e w2 ⟨rfl, hb2⟩
      go_wp2
      go_roundw
      case rel => exact ⟨k + 1, by omega, by go_num, by rw [HS.out], bth hb (bth (bl1 _ _) hb2)⟩
      case measure => simp [intOf]; omega
    · obtain rfl : k = xs.length := by omega
      go_wp2
      go_ret
      exact ⟨rfl, hb⟩
def rtOut (xs : List Res) : Value := if reportB xs then .tuple #[.string (repTxt xs), .bool true] else .tuple #[.string ⟨#[]⟩, .bool false]
theorem rtOut_form (xs : List Res) : ∃ s b, rtOut xs = .tuple #[.string s, .bool b] := by unfold rtOut; split <;> exact ⟨_, _, rfl⟩
theorem iReportText_is (A : Option Addr) (c : Nat) (xs : List Res) (hn : xs.length ≤ 1048576) (v : Value) (hv : rtOut xs = v) (w : World) (hR : Rds 5 Res.cells w A xs) (hT : TabP w) :
  Calls Tryd.prog 17 #[.slice A xs.length c] w fun e w' => e = .returned v ∧ Below w.heap.size w w' := by
  subst hv
  cases h : reportB xs
  · go_enter Tryd.func17, Tryd.ntmps17
    go_wp2_with fail
    refine (isReport_is A c xs hn _ h _ (hR.below (by repeat (first | exact Below.refl _ _ | refine Below.alloc ?_ (by first | exact Nat.le_refl _ | (simp <;> omega)) _ | refine Below.setCell ?_ (by first | exact Nat.le_refl _ | (simp <;> omega)) _)))).mono ?_
    rintro e w1 ⟨rfl, hb1⟩
    have hq1 : Below w.heap.size w w1 := bth (by repeat (first | exact Below.refl _ _ | refine Below.alloc ?_ (by first | exact Nat.le_refl _ | (simp <;> omega)) _ | refine Below.setCell ?_ (by first | exact Nat.le_refl _ | (simp <;> omega)) _)) hb1
    have HB : Below w.heap.size w w1 := hq1
    go_wp2
    go_ret2
    exact ⟨by simp [rtOut, h], (bth HB (by repeat (first | exact Below.refl _ _ | refine Below.alloc ?_ (by first | exact Nat.le_refl _ | (simp <;> omega)) _ | refine Below.setCell ?_ (by first | exact Nat.le_refl _ | (simp <;> omega)) _)))⟩
  · go_enter Tryd.func17, Tryd.ntmps17
    go_wp2_with fail
    refine (isReport_is A c xs hn _ h _ (hR.below (by repeat (first | exact Below.refl _ _ | refine Below.alloc ?_ (by first | exact Nat.le_refl _ | (simp <;> omega)) _ | refine Below.setCell ?_ (by first | exact Nat.le_refl _ | (simp <;> omega)) _)))).mono ?_
    rintro e w1 ⟨rfl, hb1⟩
    have hq1 : Below w.heap.size w w1 := bth (by repeat (first | exact Below.refl _ _ | refine Below.alloc ?_ (by first | exact Nat.le_refl _ | (simp <;> omega)) _ | refine Below.setCell ?_ (by first | exact Nat.le_refl _ | (simp <;> omega)) _)) hb1
    have HB : Below w.heap.size w w1 := hq1
    go_wp2_with fail
    refine (reportText_is A c xs h _ (hR.below HB) (hT.below HB)).mono ?_
    rintro e w2 ⟨rfl, hb2⟩
    have hq2 : Below w1.heap.size w1 w2 := bth (by repeat (first | exact Below.refl _ _ | refine Below.alloc ?_ (by first | exact Nat.le_refl _ | (simp <;> omega)) _ | refine Below.setCell ?_ (by first | exact Nat.le_refl _ | (simp <;> omega)) _)) hb2
    replace HB := bth HB hq2
    go_wp2
    go_ret2
    exact ⟨by simp [rtOut, h], (bth HB (by repeat (first | exact Below.refl _ _ | refine Below.alloc ?_ (by first | exact Nat.le_refl _ | (simp <;> omega)) _ | refine Below.setCell ?_ (by first | exact Nat.le_refl _ | (simp <;> omega)) _)))⟩
set_option maxHeartbeats 1000000 in
set_option maxRecDepth 100000 in
theorem sReportText_is (A : Option Addr) (c : Nat) (xs : List Res) (hn : xs.length ≤ 1048576) (v : Value) (hv : rtOut xs = v) (w : World) (hR : Rds 5 Res.cells w A xs) :
  Calls Tryd.prog 15 #[.slice A xs.length c] w fun e w' => e = .returned v ∧ Below w.heap.size w w' := by
  subst hv
  cases hr : reportB xs
  · go_enter Tryd.func15, Tryd.ntmps15
    go_wp2_with fail
    refine (l26Good_is A c xs hn _ hr _ (hR.below (by repeat (first | exact Below.refl _ _ | refine Below.alloc ?_ (by first | exact Nat.le_refl _ | (simp <;> omega)) _ | refine Below.setCell ?_ (by first | exact Nat.le_refl _ | (simp <;> omega)) _)))).mono ?_
    rintro e w1 ⟨rfl, hb1⟩
    have hq1 : Below w.heap.size w w1 := bth (by repeat (first | exact Below.refl _ _ | refine Below.alloc ?_ (by first | exact Nat.le_refl _ | (simp <;> omega)) _ | refine Below.setCell ?_ (by first | exact Nat.le_refl _ | (simp <;> omega)) _)) hb1
    have HB : Below w.heap.size w w1 := hq1
    go_wp2
    go_ret2
    exact ⟨by simp [rtOut, hr], (bth HB (by repeat (first | exact Below.refl _ _ | refine Below.alloc ?_ (by first | exact Nat.le_refl _ | (simp <;> omega)) _ | refine Below.setCell ?_ (by first | exact Nat.le_refl _ | (simp <;> omega)) _)))⟩
  have hl := reportB_len hr
  go_enter Tryd.func15, Tryd.ntmps15
  go_wp2_with fail
  refine (l26Good_is A c xs hn _ hr _ (hR.below (by repeat (first | exact Below.refl _ _ | refine Below.alloc ?_ (by first | exact Nat.le_refl _ | (simp <;> omega)) _ | refine Below.setCell ?_ (by first | exact Nat.le_refl _ | (simp <;> omega)) _)))).mono ?_
  rintro e w1 ⟨rfl, hb1⟩
  have hq1 : Below w.heap.size w w1 := bth (by repeat (first | exact Below.refl _ _ | refine Below.alloc ?_ (by first | exact Nat.le_refl _ | (simp <;> omega)) _ | refine Below.setCell ?_ (by first | exact Nat.le_refl _ | (simp <;> omega)) _)) hb1
  have HB : Below w.heap.size w w1 := hq1
  go_wp2
  go_loopw [4, 5] (fun t i wr => ∃ k : Nat, k ≤ xs.length ∧ i = .int .i64 k ∧ t = .string (repTo xs k) ∧ Below w1.heap.size w1 wr) (fun _ i _ => xs.length - (intOf i).toNat)
  case atStart => exact ⟨0, Nat.zero_le _, rfl, rfl, Below.refl _ _⟩
  case round =>
    obtain ⟨k, hk, rfl, rfl, hb⟩ := hrel
    by_cases hlt : k < xs.length
    · obtain ⟨b, off, x, rfl, hbl, hx, hcx⟩ := hR.at_ (bth HB hb) hlt
      have hv := reportB_at hr hx
      have hstep : repTo xs (k + 1) = repTo xs k ++ (x.line ++ (⟨#[10]⟩ : ByteArray)) := by rw [repTo, hx]
      have HS := Lib.hid hstep; clear hstep hx
      have hsz := repTo_size hr k
      have hls := x.line_size hv
      have f0 := hcx 0 _ rfl
      have f1 := hcx 1 _ rfl
      have f2 := hcx 2 _ rfl
      have f3 := hcx 3 _ rfl
      have f4 := hcx 4 _ rfl
      simp only [Nat.add_zero] at f0
      have g0 := f0 (Kin.self _)
      have g1 := f1 (Kin.self _)
      have g2 := f2 (Kin.self _)
      have g3 := f3 (Kin.self _)
      have g4 := f4 (Kin.self _)
      simp only [Kin.self] at g0
      simp only [Kin.self] at g1
      simp only [Kin.self] at g2
      simp only [Kin.self] at g3
      simp only [Kin.self] at g4
      clear hcx f0 f1 f2 f3 f4
      have HV := Lib.hid hv; clear hv
      go_wp2_with fail
      refine (l26Line_is x HV.out _).mono ?_
      rintro e w2 ⟨rfl, hb2⟩
      go_wp2
      go_roundw
      case rel => exact ⟨k + 1, by omega, by go_num, by rw [HS.out, ByteArray.append_assoc], bth hb hb2⟩
      case measure => simp [intOf]; omega
    · obtain rfl : k = xs.length := by omega
      go_wp2
      go_ret2
      exact ⟨by simp [rtOut, hr, repTxt], bth HB hb⟩
end Go.Proofs.YtbnncgahepcfnaaDoor
