/- What a meeting reads as. -/
import Derived.Test.YtkkdegmfmimdgaaRead
import Derived.Test.YtkkdegmfmimdgaaMee
namespace Go.Proofs.Ytkkdegmfmimdgaa
open Go.ChangeShapes Go.WideShapes Go.ChangeAt Go.RowKit Go.Deep Go.G9
section
variable {H : Type} {enc : TypeId × Value → H} {w : World} {base : Nat} {sp : Nat → Bool} {hd : Bool} {fuel : Nat} {cs : List Value} {x : DataW H × List MemPlace}
theorem cells_Rul : Try.prog.cellsOf 93 = 7 := by kernel_rfl
set_option maxRecDepth 100000 in
theorem rd_Rul (h : DataW.trod enc Try.prog w base sp hd fuel 93 cs = some x) : ∃ y : Rul, cs = y.cells := by
  obtain ⟨xs, n, rfl, _, hl, hlen, hg⟩ := DataW.trod_struct Try.underlying93 h
  match cs, hl.trans cells_Rul with
  | [c0, c1, c2, c3, c4, c5, c6], _ =>
    obtain ⟨n0, e0⟩ := rd_int_at hlen hg 0 _ rfl Try.underlying3 cells_int
    obtain ⟨n1, e1, k1⟩ := rd_string_at hlen hg 1 _ rfl Try.underlying9 cells_string
    obtain ⟨n2, e2⟩ := rd_int_at hlen hg 2 _ rfl Try.underlying3 cells_int
    obtain ⟨n3, e3⟩ := rd_bool_at hlen hg 3 _ rfl Try.underlying4 cells_bool
    obtain ⟨n4, e4⟩ := rd_bool_at hlen hg 4 _ rfl Try.underlying4 cells_bool
    obtain ⟨n5, e5⟩ := rd_bool_at hlen hg 5 _ rfl Try.underlying4 cells_bool
    obtain ⟨n6, e6⟩ := rd_int_at hlen hg 6 _ rfl Try.underlying3 cells_int
    exact ⟨⟨n0, n1, n2, n3, n4, n5, n6, k1⟩, by simp_all [Rul.cells]⟩
theorem cells_Que : Try.prog.cellsOf 106 = 3 := by kernel_rfl
set_option maxRecDepth 100000 in
theorem rd_Que (h : DataW.trod enc Try.prog w base sp hd fuel 106 cs = some x) : ∃ y : Que, cs = y.cells := by
  obtain ⟨xs, n, rfl, _, hl, hlen, hg⟩ := DataW.trod_struct Try.underlying106 h
  match cs, hl.trans cells_Que with
  | [c0, c1, c2], _ =>
    obtain ⟨n0, e0⟩ := rd_int_at hlen hg 0 _ rfl Try.underlying3 cells_int
    obtain ⟨n1, e1⟩ := rd_int_at hlen hg 1 _ rfl Try.underlying3 cells_int
    obtain ⟨n2, e2⟩ := rd_bool_at hlen hg 2 _ rfl Try.underlying4 cells_bool
    exact ⟨⟨n0, n1, n2⟩, by simp_all [Que.cells]⟩
theorem cells_Sha : Try.prog.cellsOf 129 = 3 := by kernel_rfl
set_option maxRecDepth 100000 in
theorem rd_Sha (h : DataW.trod enc Try.prog w base sp hd fuel 129 cs = some x) : ∃ y : Sha, cs = y.cells := by
  obtain ⟨xs, n, rfl, _, hl, hlen, hg⟩ := DataW.trod_struct Try.underlying129 h
  match cs, hl.trans cells_Sha with
  | [c0, c1, c2], _ =>
    obtain ⟨n0, e0⟩ := rd_int_at hlen hg 0 _ rfl Try.underlying3 cells_int
    obtain ⟨n1, e1⟩ := rd_int_at hlen hg 1 _ rfl Try.underlying3 cells_int
    obtain ⟨n2, e2⟩ := rd_int_at hlen hg 2 _ rfl Try.underlying3 cells_int
    exact ⟨⟨n0, n1, n2⟩, by simp_all [Sha.cells]⟩
theorem cells_Out : Try.prog.cellsOf 110 = 3 := by kernel_rfl
set_option maxRecDepth 100000 in
theorem rd_Out (h : DataW.trod enc Try.prog w base sp hd fuel 110 cs = some x) : ∃ y : Out, cs = y.cells := by
  obtain ⟨xs, n, rfl, _, hl, hlen, hg⟩ := DataW.trod_struct Try.underlying110 h
  match cs, hl.trans cells_Out with
  | [c0, c1, c2], _ =>
    obtain ⟨n0, e0⟩ := rd_int_at hlen hg 0 _ rfl Try.underlying3 cells_int
    obtain ⟨n1, e1⟩ := rd_int_at hlen hg 1 _ rfl Try.underlying3 cells_int
    obtain ⟨n2, e2⟩ := rd_bool_at hlen hg 2 _ rfl Try.underlying4 cells_bool
    exact ⟨⟨n0, n1, n2⟩, by simp_all [Out.cells]⟩
theorem cells_rules : Try.prog.cellsOf 22 = 1 := by kernel_rfl
theorem cells_ques : Try.prog.cellsOf 23 = 1 := by kernel_rfl
theorem cells_wint : Try.prog.cellsOf 24 = 1 := by kernel_rfl
theorem cells_shas : Try.prog.cellsOf 25 = 1 := by kernel_rfl
theorem cells_outs : Try.prog.cellsOf 28 = 1 := by kernel_rfl
theorem cells_Flo : Try.prog.cellsOf 27 = 5 := by kernel_rfl
theorem cells_Mee : Try.prog.cellsOf 30 = 8 := by kernel_rfl
set_option maxRecDepth 100000 in
set_option maxHeartbeats 1000000 in
theorem rd_Mee (h : DataW.trod enc Try.prog w base sp hd fuel 30 cs = some x) : ∃ (m : Mee) (A0 A1 A2 A3 A4 : Option Addr) (c0 c1 c2 c3 c4 : Nat), cs = [.slice A0 m.rules.length c0, .slice A1 m.pend.length c1, .int .i64 m.turns, .int .i64 m.secs, .int .i64 m.spk, .slice A2 m.wait.length c2, .slice A3 m.shares.length c3, .slice A4 m.outs.length c4] ∧
    m.rules.length ≤ maxLen ∧ m.pend.length ≤ maxLen ∧ m.wait.length ≤ maxLen ∧ m.shares.length ≤ maxLen ∧ m.outs.length ≤ maxLen ∧
    Rds 7 Rul.cells w A0 m.rules ∧ Rds 3 Que.cells w A1 m.pend ∧ Rds 1 intC w A2 m.wait ∧ Rds 3 Sha.cells w A3 m.shares ∧ Rds 3 Out.cells w A4 m.outs := by
  obtain ⟨xs, n, rfl, _, hl, hlen, hg⟩ := DataW.trod_struct Try.underlying30 h
  match cs, hl.trans cells_Mee with
  | [d0, d1, d2, d3, d4, d5, d6, d7], _ =>
    obtain ⟨_, h0⟩ := rd_sub_at hlen hg 0 _ rfl cells_rules
    obtain ⟨_, h1⟩ := rd_sub_at hlen hg 1 _ rfl cells_ques
    obtain ⟨_, h2⟩ := rd_sub_at hlen hg 2 _ rfl cells_Flo
    obtain ⟨_, h3⟩ := rd_sub_at hlen hg 3 _ rfl cells_outs
    obtain ⟨xs', n', rfl, _, hl', hlen', hg'⟩ := DataW.trod_struct Try.underlying27 h2
    obtain ⟨n0, e2⟩ := rd_int_at hlen' hg' 0 _ rfl Try.underlying3 cells_int
    obtain ⟨n1, e3⟩ := rd_int_at hlen' hg' 1 _ rfl Try.underlying3 cells_int
    obtain ⟨n2, e4⟩ := rd_int_at hlen' hg' 2 _ rfl Try.underlying3 cells_int
    obtain ⟨_, h5⟩ := rd_sub_at hlen' hg' 3 _ rfl cells_wint
    obtain ⟨_, h6⟩ := rd_sub_at hlen' hg' 4 _ rfl cells_shas
    obtain ⟨A0, c0, rs, e0, l0, R0, _⟩ := rd_slicen Rul.cells 7 (by decide) Try.underlying22 cells_Rul (fun _ _ _ h => rd_Rul h) h0
    obtain ⟨A1, c1, qs, e1, l1, R1, _⟩ := rd_slicen Que.cells 3 (by decide) Try.underlying23 cells_Que (fun _ _ _ h => rd_Que h) h1
    obtain ⟨A2, c2, ws, e5, l2, R2, _⟩ := rd_slicen intC 1 (by decide) Try.underlying24 cells_int (fun _ _ _ h => rd_Int h) h5
    obtain ⟨A3, c3, ss, e6, l3, R3, _⟩ := rd_slicen Sha.cells 3 (by decide) Try.underlying25 cells_Sha (fun _ _ _ h => rd_Sha h) h6
    obtain ⟨A4, c4, os, e7, l4, R4, _⟩ := rd_slicen Out.cells 3 (by decide) Try.underlying28 cells_Out (fun _ _ _ h => rd_Out h) h3
    simp at e0 e1 e2 e3 e4 e5 e6 e7
    subst e0 e1 e2 e3 e4 e5 e6 e7
    exact ⟨⟨rs, qs, n0, n1, n2, ws, ss, os⟩, A0, A1, A2, A3, A4, c0, c1, c2, c3, c4, rfl, l0, l1, l2, l3, l4, R0, R1, R2, R3, R4⟩
end
end Go.Proofs.Ytkkdegmfmimdgaa
