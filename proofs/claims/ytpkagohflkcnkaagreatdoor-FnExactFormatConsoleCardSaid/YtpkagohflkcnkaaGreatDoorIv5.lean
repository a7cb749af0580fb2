/- Pending questions: the rule of a question, whether it lacks a second. -/
import Derived.Test.YtpkagohflkcnkaaGreatDoorIv4
import Derived.Deep.Cut
namespace Go.Proofs.YtpkagohflkcnkaaGreatDoor
open Go.RowKit Go.G9
theorem idx_cases {T : Type} (p : T → Bool) : ∀ xs : List T, (xs.findIdx? p = none ∧ xs.find? p = none) ∨ ∃ (k : Nat) (x : T), xs.findIdx? p = some k ∧ xs[k]? = some x ∧ xs.find? p = some x
  | [] => .inl ⟨rfl, rfl⟩
  | y :: ys => by
    cases hp : p y
    · rcases idx_cases p ys with ⟨h1, h2⟩ | ⟨k, x, h1, h2, h3⟩
      · left; simp [List.findIdx?_cons, hp, h1, h2]
      · right; exact ⟨k + 1, x, by simp [List.findIdx?_cons, hp, h1], by simpa using h2, by simp [hp, h3]⟩
    · right; exact ⟨0, y, by simp [List.findIdx?_cons, hp], rfl, by simp [hp]⟩
theorem idxB_some {T : Type} {p : T → Bool} {xs : List T} {x : T} (h : xs.find? p = some x) : ∃ k : Nat, idxB p xs = k ∧ xs[k]? = some x := by
  rcases idx_cases p xs with ⟨h1, h2⟩ | ⟨k, y, h1, h2, h3⟩
  · rw [h2] at h; cases h
  · rw [h3] at h; cases h; exact ⟨k, by simp [idxB, h1], h2⟩
theorem idxB_nil {T : Type} {p : T → Bool} {xs : List T} (h : xs.find? p = none) : idxB p xs = -1 := by
  rcases idx_cases p xs with ⟨h1, h2⟩ | ⟨k, y, h1, h2, h3⟩
  · simp [idxB, h1]
  · rw [h3] at h; cases h
def fnd (rs : List Rul) (id : Int) : Option Rul := rs.find? (fun r => r.id == id)
def memB (n : Int) : Bool := inB n 1 99
def lackB (r : Rul) (q : Que) : Bool := r.second && !q.sec
theorem isMember_is (n : Int) (v : Bool) (hv : memB n = v) (w : World) : Calls Tryz.prog 42 #[.int .i64 n] w fun e w' => e = .returned (.bool v) ∧ w' = w := by
  go_enter Tryz.func42, Tryz.ntmps42
  go_wp2_with (go_at_call 67; refine (inside_is _ _ _ _ hv _).mono ?_; rintro e w' ⟨rfl, rfl⟩)
  go_ret
  exact ⟨rfl, rfl⟩
theorem l7Member_is (n : Int) (v : Bool) (hv : memB n = v) (w : World) : Calls Tryz.prog 57 #[.int .i64 n] w fun e w' => e = .returned (.bool v) ∧ w' = w := by
  go_enter Tryz.func57, Tryz.ntmps57
  go_wp2_with (go_at_call 85; refine (l1In_is _ _ _ _ hv _).mono ?_; rintro e w' ⟨rfl, rfl⟩)
  go_ret
  exact ⟨rfl, rfl⟩
set_option maxHeartbeats 1000000 in
set_option maxRecDepth 100000 in
theorem ruleOf_is (A : Option Addr) (c : Nat) (rs : List Rul) (hn : rs.length ≤ 1048576) (q : Que) (r : Rul) (hr : fnd rs q.rule = some r) (w : World) (hR : Rds 7 Rul.cells w A rs) :
  Calls Tryz.prog 25 #[.slice A rs.length c, .agg #[.int .i64 q.rule, .int .i64 q.mover, .bool q.sec]] w fun e w' => e = .returned (.agg #[.int .i64 r.id, .string r.name, .int .i64 r.rank, .bool r.second, .bool r.debate, .bool r.amend, .int .i64 r.need]) ∧ Below w.heap.size w w' := by
  obtain ⟨k, hi, hk⟩ := idxB_some hr
  have hlt : k < rs.length := (List.getElem?_eq_some_iff.1 hk).1
  have HI := Lib.hid hi; clear hi hr
  go_enter Tryz.func25, Tryz.ntmps25
  go_upto_region 1 with fail
  have hq1 : Below w.heap.size w (World.alloc (World.alloc w (.cells #[.int .i64 q.rule, .int .i64 q.mover, .bool q.sec] 63)) (.cells #[.int .i64 0, .string ⟨#[]⟩, .int .i64 0, .bool false, .bool false, .bool false, .int .i64 0] 65)) := bl2 w _ _
  have hQ : Blk (World.alloc (World.alloc w (.cells #[.int .i64 q.rule, .int .i64 q.mover, .bool q.sec] 63)) (.cells #[.int .i64 0, .string ⟨#[]⟩, .int .i64 0, .bool false, .bool false, .bool false, .int .i64 0] 65)) (w.heap.size) 63 #[.int .i64 q.rule, .int .i64 q.mover, .bool q.sec] := by repeat (first | exact Blk.new _ _ _ | exact Blk.new2 _ _ _ _ | exact Blk.new3 _ _ _ _ _ | exact Blk.new4 _ _ _ _ _ _ | refine Blk.alloc ?_ _)
  have hZ : Blk (World.alloc (World.alloc w (.cells #[.int .i64 q.rule, .int .i64 q.mover, .bool q.sec] 63)) (.cells #[.int .i64 0, .string ⟨#[]⟩, .int .i64 0, .bool false, .bool false, .bool false, .int .i64 0] 65)) (w.heap.size + 1) 65 #[.int .i64 0, .string ⟨#[]⟩, .int .i64 0, .bool false, .bool false, .bool false, .int .i64 0] := by repeat (first | exact Blk.new _ _ _ | exact Blk.new2 _ _ _ _ | exact Blk.new3 _ _ _ _ _ | exact Blk.new4 _ _ _ _ _ _ | refine Blk.alloc ?_ _)
  replace hR := hR.below hq1
  generalize World.alloc (World.alloc w (.cells #[.int .i64 q.rule, .int .i64 q.mover, .bool q.sec] 63)) (.cells #[.int .i64 0, .string ⟨#[]⟩, .int .i64 0, .bool false, .bool false, .bool false, .int .i64 0] 65) = wZ at *
  have HB := hq1
  have q0 := (hQ.cell 0).trans (show _ = some (.int .i64 q.rule) from rfl)
  have q1 := (hQ.cell 1).trans (show _ = some (.int .i64 q.mover) from rfl)
  have q2 := (hQ.cell 2).trans (show _ = some (.bool q.sec) from rfl)
  have z0 := (hZ.cell 0).trans (show _ = some (.int .i64 0) from rfl)
  have z1 := (hZ.cell 1).trans (show _ = some (.string ⟨#[]⟩) from rfl)
  have z2 := (hZ.cell 2).trans (show _ = some (.int .i64 0) from rfl)
  have z3 := (hZ.cell 3).trans (show _ = some (.bool false) from rfl)
  have z4 := (hZ.cell 4).trans (show _ = some (.bool false) from rfl)
  have z5 := (hZ.cell 5).trans (show _ = some (.bool false) from rfl)
  have z6 := (hZ.cell 6).trans (show _ = some (.int .i64 0) from rfl)
  have hz0 := hZ.lt
  go_wp2_with fail
  refine (ruleIndex_is A c rs hn q.rule _ HI.out _ (hR.below (by repeat (first | exact Below.refl _ _ | refine Below.alloc ?_ (by first | exact Nat.le_refl _ | (simp <;> omega)) _ | refine Below.setCell ?_ (by first | exact Nat.le_refl _ | (simp <;> omega)) _)))).mono ?_
  rintro e w2 ⟨rfl, hb2⟩
  have hq2 : Below wZ.heap.size wZ w2 := bth (by repeat (first | exact Below.refl _ _ | refine Below.alloc ?_ (by first | exact Nat.le_refl _ | (simp <;> omega)) _ | refine Below.setCell ?_ (by first | exact Nat.le_refl _ | (simp <;> omega)) _)) hb2
  replace HB := bth HB hq2
  replace hR := hR.below hq2
  replace hQ := hQ.below hq2 hQ.lt
  replace q0 := (hQ.cell 0).trans (show _ = some (.int .i64 q.rule) from rfl)
  replace q1 := (hQ.cell 1).trans (show _ = some (.int .i64 q.mover) from rfl)
  replace q2 := (hQ.cell 2).trans (show _ = some (.bool q.sec) from rfl)
  replace hZ := hZ.below hq2 hZ.lt
  replace z0 := (hZ.cell 0).trans (show _ = some (.int .i64 0) from rfl)
  replace z1 := (hZ.cell 1).trans (show _ = some (.string ⟨#[]⟩) from rfl)
  replace z2 := (hZ.cell 2).trans (show _ = some (.int .i64 0) from rfl)
  replace z3 := (hZ.cell 3).trans (show _ = some (.bool false) from rfl)
  replace z4 := (hZ.cell 4).trans (show _ = some (.bool false) from rfl)
  replace z5 := (hZ.cell 5).trans (show _ = some (.bool false) from rfl)
  replace z6 := (hZ.cell 6).trans (show _ = some (.int .i64 0) from rfl)
  obtain ⟨b, off, r', rfl, hbl, hx, hcx⟩ := hR.at_ (Below.refl _ _) hlt
  obtain rfl : r = r' := Option.some.inj (hk.symm.trans hx)
  have f0 := hcx 0 _ rfl
  have f1 := hcx 1 _ rfl
  have f2 := hcx 2 _ rfl
  have f3 := hcx 3 _ rfl
  have f4 := hcx 4 _ rfl
  have f5 := hcx 5 _ rfl
  have f6 := hcx 6 _ rfl
  simp only [Nat.add_zero] at f0
  have g0 := f0 (Kin.self _)
  have g1 := f1 (Kin.self _)
  have g2 := f2 (Kin.self _)
  have g3 := f3 (Kin.self _)
  have g4 := f4 (Kin.self _)
  have g5 := f5 (Kin.self _)
  have g6 := f6 (Kin.self _)
  simp only [Kin.self] at g0
  simp only [Kin.self] at g1
  simp only [Kin.self] at g2
  simp only [Kin.self] at g3
  simp only [Kin.self] at g4
  simp only [Kin.self] at g5
  simp only [Kin.self] at g6
  clear hx hcx hk
  have fhZ0 := hZ.frozen 0
  have fhZ1 := hZ.frozen 1
  have fhZ2 := hZ.frozen 2
  have fhZ3 := hZ.frozen 3
  have fhZ4 := hZ.frozen 4
  have fhZ5 := hZ.frozen 5
  have fhZ6 := hZ.frozen 6
  have yhQ := hQ.lt
  have yhZ := hZ.lt
  go_wp2
  clear q0 q1 q2 z0 z1 z2 z3 z4 z5 z6
  replace HB : Below w.heap.size w (World.setCell (World.setCell (World.setCell (World.setCell (World.setCell (World.setCell (World.setCell w2 ⟨w.heap.size + 1, 0, none⟩ (.int .i64 r.id)) ⟨w.heap.size + 1, 1, none⟩ (.string r.name)) ⟨w.heap.size + 1, 2, none⟩ (.int .i64 r.rank)) ⟨w.heap.size + 1, 3, none⟩ (.bool r.second)) ⟨w.heap.size + 1, 4, none⟩ (.bool r.debate)) ⟨w.heap.size + 1, 5, none⟩ (.bool r.amend)) ⟨w.heap.size + 1, 6, none⟩ (.int .i64 r.need)) := (((((((HB.setCell (by show w.heap.size ≤ w.heap.size + 1; omega) (.int .i64 r.id) (p := ⟨w.heap.size + 1, 0, none⟩)).setCell (by show w.heap.size ≤ w.heap.size + 1; omega) (.string r.name) (p := ⟨w.heap.size + 1, 1, none⟩)).setCell (by show w.heap.size ≤ w.heap.size + 1; omega) (.int .i64 r.rank) (p := ⟨w.heap.size + 1, 2, none⟩)).setCell (by show w.heap.size ≤ w.heap.size + 1; omega) (.bool r.second) (p := ⟨w.heap.size + 1, 3, none⟩)).setCell (by show w.heap.size ≤ w.heap.size + 1; omega) (.bool r.debate) (p := ⟨w.heap.size + 1, 4, none⟩)).setCell (by show w.heap.size ≤ w.heap.size + 1; omega) (.bool r.amend) (p := ⟨w.heap.size + 1, 5, none⟩)).setCell (by show w.heap.size ≤ w.heap.size + 1; omega) (.int .i64 r.need) (p := ⟨w.heap.size + 1, 6, none⟩))
  replace hQ := (((((((hQ.far' (p := ⟨w.heap.size + 1, 0, none⟩) (by show _ ≠ w.heap.size + 1; omega) (.int .i64 r.id)).far' (p := ⟨w.heap.size + 1, 1, none⟩) (by show _ ≠ w.heap.size + 1; omega) (.string r.name)).far' (p := ⟨w.heap.size + 1, 2, none⟩) (by show _ ≠ w.heap.size + 1; omega) (.int .i64 r.rank)).far' (p := ⟨w.heap.size + 1, 3, none⟩) (by show _ ≠ w.heap.size + 1; omega) (.bool r.second)).far' (p := ⟨w.heap.size + 1, 4, none⟩) (by show _ ≠ w.heap.size + 1; omega) (.bool r.debate)).far' (p := ⟨w.heap.size + 1, 5, none⟩) (by show _ ≠ w.heap.size + 1; omega) (.bool r.amend)).far' (p := ⟨w.heap.size + 1, 6, none⟩) (by show _ ≠ w.heap.size + 1; omega) (.int .i64 r.need))
  replace hZ : Blk (World.setCell (World.setCell (World.setCell (World.setCell (World.setCell (World.setCell (World.setCell w2 ⟨w.heap.size + 1, 0, none⟩ (.int .i64 r.id)) ⟨w.heap.size + 1, 1, none⟩ (.string r.name)) ⟨w.heap.size + 1, 2, none⟩ (.int .i64 r.rank)) ⟨w.heap.size + 1, 3, none⟩ (.bool r.second)) ⟨w.heap.size + 1, 4, none⟩ (.bool r.debate)) ⟨w.heap.size + 1, 5, none⟩ (.bool r.amend)) ⟨w.heap.size + 1, 6, none⟩ (.int .i64 r.need)) (w.heap.size + 1) 65 #[.int .i64 r.id, .string r.name, .int .i64 r.rank, .bool r.second, .bool r.debate, .bool r.amend, .int .i64 r.need] := (((((((hZ.set_ 0 (.int .i64 r.id)).set_ 1 (.string r.name)).set_ 2 (.int .i64 r.rank)).set_ 3 (.bool r.second)).set_ 4 (.bool r.debate)).set_ 5 (.bool r.amend)).set_ 6 (.int .i64 r.need))
  generalize World.setCell (World.setCell (World.setCell (World.setCell (World.setCell (World.setCell (World.setCell w2 ⟨w.heap.size + 1, 0, none⟩ (.int .i64 r.id)) ⟨w.heap.size + 1, 1, none⟩ (.string r.name)) ⟨w.heap.size + 1, 2, none⟩ (.int .i64 r.rank)) ⟨w.heap.size + 1, 3, none⟩ (.bool r.second)) ⟨w.heap.size + 1, 4, none⟩ (.bool r.debate)) ⟨w.heap.size + 1, 5, none⟩ (.bool r.amend)) ⟨w.heap.size + 1, 6, none⟩ (.int .i64 r.need) = W9 at *
  have q0 := (hQ.cell 0).trans (show _ = some (.int .i64 q.rule) from rfl)
  have q1 := (hQ.cell 1).trans (show _ = some (.int .i64 q.mover) from rfl)
  have q2 := (hQ.cell 2).trans (show _ = some (.bool q.sec) from rfl)
  have z0 := (hZ.cell 0).trans (show _ = some (.int .i64 r.id) from rfl)
  have z1 := (hZ.cell 1).trans (show _ = some (.string r.name) from rfl)
  have z2 := (hZ.cell 2).trans (show _ = some (.int .i64 r.rank) from rfl)
  have z3 := (hZ.cell 3).trans (show _ = some (.bool r.second) from rfl)
  have z4 := (hZ.cell 4).trans (show _ = some (.bool r.debate) from rfl)
  have z5 := (hZ.cell 5).trans (show _ = some (.bool r.amend) from rfl)
  have z6 := (hZ.cell 6).trans (show _ = some (.int .i64 r.need) from rfl)
  refine bodyPost_ret (v := .agg #[.int .i64 r.id, .string r.name, .int .i64 r.rank, .bool r.second, .bool r.debate, .bool r.amend, .int .i64 r.need]) (by simp [results, Tryz.results25, go_sem, z0, z1, z2, z3, z4, z5, z6]) rfl ?_
  exact ⟨rfl, HB⟩
set_option maxHeartbeats 1000000 in
set_option maxRecDepth 100000 in
theorem lacksSecond_is (A : Option Addr) (c : Nat) (rs : List Rul) (hn : rs.length ≤ 1048576) (q : Que) (r : Rul) (hr : fnd rs q.rule = some r) (v : Bool) (hv : lackB r q = v) (w : World) (hR : Rds 7 Rul.cells w A rs) :
  Calls Tryz.prog 66 #[.slice A rs.length c, .agg #[.int .i64 q.rule, .int .i64 q.mover, .bool q.sec]] w fun e w' => e = .returned (.bool v) ∧ Below w.heap.size w w' := by
  subst hv
  obtain ⟨qr, qm, qs⟩ := q
  obtain ⟨id, nm, rk, se, de, am, nd, hs⟩ := r
  go_enter Tryz.func66, Tryz.ntmps66
  go_wp2_with fail
  refine (ruleOf_is A c rs hn ⟨qr, qm, qs⟩ ⟨id, nm, rk, se, de, am, nd, hs⟩ hr _ (hR.below (bl1 _ _))).mono ?_
  rintro e w1 ⟨rfl, hb1⟩
  have hQ := (Blk.new w 63 #[.int .i64 qr, .int .i64 qm, .bool qs]).below hb1 (by simp)
  have q2 := (hQ.cell 2).trans (show _ = some (.bool qs) from rfl)
  clear hr
  have hfd : ∀ W : World, (Instr.field 65 (.agg #[.int .i64 id, .string nm, .int .i64 rk, .bool se, .bool de, .bool am, .int .i64 nd]) 3).run Tryz.prog W = .ok (.bool se) W := fun _ => by kernel_rfl
  cases se <;> cases qs
  all_goals
    go_wp2
    go_ret
    exact ⟨by simp [lackB], bth (bl1 _ _) hb1⟩
theorem l7Lacks_is (A : Option Addr) (c : Nat) (rs : List Rul) (hn : rs.length ≤ 1048576) (q : Que) (r : Rul) (hr : fnd rs q.rule = some r) (v : Bool) (hv : lackB r q = v) (w : World) (hR : Rds 7 Rul.cells w A rs) :
  Calls Tryz.prog 83 #[.slice A rs.length c, .agg #[.int .i64 q.rule, .int .i64 q.mover, .bool q.sec]] w fun e w' => e = .returned (.bool v) ∧ Below w.heap.size w w' := by
  subst hv
  obtain ⟨k, hi, hk⟩ := idxB_some hr
  have hlt : k < rs.length := (List.getElem?_eq_some_iff.1 hk).1
  have HI := Lib.hid hi; clear hi hr
  obtain ⟨b, off, r', rfl, hbl, hx, hcx⟩ := hR.at_ (bl1 w (.cells #[.int .i64 q.rule, .int .i64 q.mover, .bool q.sec] 63)) hlt
  obtain rfl : r = r' := Option.some.inj (hk.symm.trans hx)
  obtain ⟨qr, qm, qs⟩ := q
  obtain ⟨id, nm, rk, se, de, am, nd, hs⟩ := r
  have g3 := hcx 3 _ rfl (Kin.self _)
  simp only [Kin.self] at g3
  clear hcx hx
  cases se <;> cases qs
  all_goals
    go_enter Tryz.func83, Tryz.ntmps83
    go_wp2_with fail
    refine (l2Find_is _ c rs hn qr _ HI.out _ (hR.below (bl1 _ _))).mono ?_
    rintro e w1 ⟨rfl, rfl⟩
    go_wp2
    go_ret
    exact ⟨by simp [lackB], bl1 _ _⟩
theorem l7Rank_is (A : Option Addr) (c : Nat) (rs : List Rul) (hn : rs.length ≤ 1048576) (q : Que) (r : Rul) (hr : fnd rs q.rule = some r) (w : World) (hR : Rds 7 Rul.cells w A rs) :
  Calls Tryz.prog 84 #[.slice A rs.length c, .agg #[.int .i64 q.rule, .int .i64 q.mover, .bool q.sec]] w fun e w' => e = .returned (.int .i64 r.rank) ∧ Below w.heap.size w w' := by
  obtain ⟨k, hi, hk⟩ := idxB_some hr
  have hlt : k < rs.length := (List.getElem?_eq_some_iff.1 hk).1
  have HI := Lib.hid hi; clear hi hr
  obtain ⟨b, off, r', rfl, hbl, hx, hcx⟩ := hR.at_ (bl1 w (.cells #[.int .i64 q.rule, .int .i64 q.mover, .bool q.sec] 63)) hlt
  obtain rfl : r = r' := Option.some.inj (hk.symm.trans hx)
  obtain ⟨qr, qm, qs⟩ := q
  obtain ⟨id, nm, rk, se, de, am, nd, hs⟩ := r
  have g2 := hcx 2 _ rfl (Kin.self _)
  simp only [Kin.self] at g2
  clear hcx hx
  go_enter Tryz.func84, Tryz.ntmps84
  go_wp2_with fail
  refine (l2Find_is _ c rs hn qr _ HI.out _ (hR.below (bl1 _ _))).mono ?_
  rintro e w1 ⟨rfl, rfl⟩
  go_wp2
  go_ret
  exact ⟨rfl, bl1 _ _⟩
set_option maxHeartbeats 4000000 in
set_option maxRecDepth 100000 in
theorem l2Good_is (A : Option Addr) (c : Nat) (xs : List Rul) (hn : xs.length ≤ 1048576) (v : Bool) (hv : rulesB xs = v) (w : World) (hR : Rds 7 Rul.cells w A xs) :
  Calls Tryz.prog 82 #[.slice A xs.length c] w fun e w' => e = .returned (.bool v) ∧ Below w.heap.size w w' := by
  subst hv
  go_enter Tryz.func82, Tryz.ntmps82
  go_wp2
  go_loopw [3, 4] (fun i _ wr => ∃ k : Nat, k ≤ xs.length ∧ k ≤ 9 ∧ i = .int .i64 k ∧ allTo (ruleStep xs) k = true ∧ Below w.heap.size w wr) (fun i _ _ => xs.length - (intOf i).toNat)
  case atStart => exact ⟨0, Nat.zero_le _, by omega, rfl, rfl, Below.refl _ _⟩
  case round =>
    obtain ⟨k, hk, hk9, rfl, hl, hb⟩ := hrel
    have HL := Lib.hid hl; clear hl
    by_cases hlt : k < xs.length
    · by_cases h9 : k ≤ 8
      · obtain ⟨b, off, x, hAe, hbl, hx, hcx⟩ := hR.at_ hb hlt
        have hRw := hR.below hb
        subst hAe
        obtain ⟨id, nm, rk, se, de, am, nd, hs⟩ := x
        cases k with
        | zero =>
          have f0 := hcx 0 _ rfl
          have f1 := hcx 1 _ rfl
          have f2 := hcx 2 _ rfl
          have f3 := hcx 3 _ rfl
          have f4 := hcx 4 _ rfl
          have f5 := hcx 5 _ rfl
          have f6 := hcx 6 _ rfl
          simp only [Nat.zero_mul, Nat.add_zero] at f0
          simp only [Nat.zero_mul] at f1
          simp only [Nat.zero_mul] at f2
          simp only [Nat.zero_mul] at f3
          simp only [Nat.zero_mul] at f4
          simp only [Nat.zero_mul] at f5
          simp only [Nat.zero_mul] at f6
          have f1' := f1
          have g0 := f0 (Kin.self _)
          have g1 := f1 (Kin.self _)
          have g2 := f2 (Kin.self _)
          have g3 := f3 (Kin.self _)
          have g4 := f4 (Kin.self _)
          have g5 := f5 (Kin.self _)
          have g6 := f6 (Kin.self _)
          simp only [Kin.self] at g0
          simp only [Kin.self] at g1
          simp only [Kin.self] at g2
          simp only [Kin.self] at g3
          simp only [Kin.self] at g4
          simp only [Kin.self] at g5
          simp only [Kin.self] at g6
          have HX := Lib.hid hx; clear hx hcx
          cases hv : ruleB ⟨id, nm, rk, se, de, am, nd, hs⟩
          all_goals
            have HV := Lib.hid hv
            go_wp2
            refine wp_region_kin (by kernel_rfl) (by kernel_rfl) ?_
            repeat (go_big_quiet_step ((go_at_call 107; exact Kin.call _ (Nat.le_refl _) (l2Single_is ⟨id, nm, rk, se, de, am, nd, hs⟩ _ HV.out _))))
            refine wpQuiet_nil ?_
            intro K
            go_wp2
          · go_ret
            exact ⟨ret_bool (by rw [rulesB, allTo_not hlt (by simp [ruleStep, HX.out, hv])]; rfl), bth hb K.below⟩
          · go_loopw [4] (fun j wq => j = .int .i64 0 ∧ Below w.heap.size w wq) (fun _ _ => 0)
            case atStart => exact ⟨rfl, bth hb K.below⟩
            case round =>
              obtain ⟨rfl, hb2⟩ := hrel
              go_wp2
              go_roundw
              case rel => exact ⟨1, by omega, by omega, by go_num, allTo_go HL.out (by simp [ruleStep, HX.out, hv]), hb2⟩
              case measure => simp [intOf]; omega
        | succ j =>
          obtain ⟨b', off', y, e', _, hy, hcy⟩ := hR.at_ hb (k := j) (by omega)
          simp only [Option.some.injEq, Addr.mk.injEq, and_true] at e'
          obtain ⟨rfl, rfl⟩ := e'
          obtain ⟨yid, yn, yr, ys, yd, ya, ynd, yok⟩ := y
          have f0 := hcx 0 _ rfl
          have f1 := hcx 1 _ rfl
          have f2 := hcx 2 _ rfl
          have f3 := hcx 3 _ rfl
          have f4 := hcx 4 _ rfl
          have f5 := hcx 5 _ rfl
          have f6 := hcx 6 _ rfl
          simp only [Nat.add_zero] at f0
          have g0 := f0 (Kin.self _)
          have g1 := f1 (Kin.self _)
          have g2 := f2 (Kin.self _)
          have g3 := f3 (Kin.self _)
          have g4 := f4 (Kin.self _)
          have g5 := f5 (Kin.self _)
          have g6 := f6 (Kin.self _)
          simp only [Kin.self] at g0
          simp only [Kin.self] at g1
          simp only [Kin.self] at g2
          simp only [Kin.self] at g3
          simp only [Kin.self] at g4
          simp only [Kin.self] at g5
          simp only [Kin.self] at g6
          have y0 := hcy 0 _ rfl
          simp only [Nat.add_zero] at y0
          have HX := Lib.hid hx; clear hx hcx
          have HY := Lib.hid hy; clear hy hcy
          cases hv : ruleB ⟨id, nm, rk, se, de, am, nd, hs⟩
          · have HV := Lib.hid hv
            go_wp2
            refine wp_region_kin (by kernel_rfl) (by kernel_rfl) ?_
            repeat (go_big_quiet_step ((go_at_call 107; exact Kin.call _ (Nat.le_refl _) (l2Single_is ⟨id, nm, rk, se, de, am, nd, hs⟩ _ HV.out _))))
            refine wpQuiet_nil ?_
            intro K
            go_wp2
            go_ret
            exact ⟨ret_bool (by rw [rulesB, allTo_not hlt (by rw [ruleStep_succ HX.out HY.out, hv]; rfl)]; rfl), bth hb K.below⟩
          · have HV := Lib.hid hv
            by_cases hid : yid < id
            · have hle : decide (id ≤ yid) = false := decide_eq_false (by omega)
              go_wp2
              refine wp_region_kin (by kernel_rfl) (by kernel_rfl) ?_
              repeat (go_big_quiet_step ((go_at_call 107; exact Kin.call _ (Nat.le_refl _) (l2Single_is ⟨id, nm, rk, se, de, am, nd, hs⟩ _ HV.out _))))
              refine wpQuiet_nil ?_
              intro K
              go_wp2
              go_loopw [4] (fun i wq => ∃ m : Nat, m ≤ j + 1 ∧ i = .int .i64 m ∧ allTo (fun i => !atB (fun z : Rul => z.name.toList == nm.toList) xs i) m = true ∧ Below w.heap.size w wq) (fun i _ => j + 1 - (intOf i).toNat)
              case atStart => exact ⟨0, by omega, rfl, rfl, bth hb K.below⟩
              case round =>
                clear f0 f1 f2 f3 f4 f5 f6 g0 g1 g2 g3 g4 g5 g6 y0
                obtain ⟨m, hm, rfl, hml, hb2⟩ := hrel
                have HML := Lib.hid hml; clear hml
                by_cases hmk : m < j + 1
                · obtain ⟨b3, off3, z, e3, _, hz, hcz⟩ := hR.at_ hb2 (k := m) (by omega)
                  simp only [Option.some.injEq, Addr.mk.injEq, and_true] at e3
                  obtain ⟨rfl, rfl⟩ := e3
                  obtain ⟨b4, off4, x4, e4, _, hx4, hcx4⟩ := hR.at_ hb2 (k := j + 1) (by omega)
                  simp only [Option.some.injEq, Addr.mk.injEq, and_true] at e4
                  obtain ⟨rfl, rfl⟩ := e4
                  obtain rfl : _ = x4 := Option.some.inj (HX.out.symm.trans hx4)
                  have p1 := hcz 1 _ rfl
                  have q1 := hcx4 1 _ rfl
                  have HZ := Lib.hid hz; clear hz hcz hcx4 hx4
                  cases hd : (z.name.toList == nm.toList)
                  all_goals
                    have HD := Lib.hid hd
                    go_wp2
                    refine wp_region_kin (by kernel_rfl) (by kernel_rfl) ?_
                    repeat (go_big_quiet_step (fail))
                    refine wpQuiet_nil ?_
                    intro K2
                    go_wp2
                  · go_roundw
                    case rel => exact ⟨m + 1, by omega, by go_num, allTo_go HML.out (by simp [atB, HZ.out, HD.out]), bth hb2 K2.below⟩
                    case measure => simp [intOf]; omega
                  · go_ret
                    exact ⟨ret_bool (by rw [rulesB, allTo_not hlt (by rw [ruleStep_succ HX.out HY.out, anyTake_yes hmk HZ.out HD.out, hv]; simp)]; rfl), bth hb2 K2.below⟩
                · obtain rfl : m = j + 1 := by omega
                  go_wp2
                  go_roundw
                  case rel => exact ⟨j + 1 + 1, by omega, by omega, by go_num, allTo_go HL.out (by rw [ruleStep_succ HX.out HY.out, hv, anyTake_no HML.out, decide_eq_true (show (Rul.id ⟨yid, yn, yr, ys, yd, ya, ynd, yok⟩) < (Rul.id ⟨id, nm, rk, se, de, am, nd, hs⟩) from hid)]; rfl), hb2⟩
                  case measure => simp [intOf]; omega
            · have hle : decide (id ≤ yid) = true := decide_eq_true (by omega)
              go_wp2
              refine wp_region_kin (by kernel_rfl) (by kernel_rfl) ?_
              repeat (go_big_quiet_step ((go_at_call 107; exact Kin.call _ (Nat.le_refl _) (l2Single_is ⟨id, nm, rk, se, de, am, nd, hs⟩ _ HV.out _))))
              refine wpQuiet_nil ?_
              intro K
              go_wp2
              go_ret
              exact ⟨ret_bool (by rw [rulesB, allTo_not hlt (by rw [ruleStep_succ HX.out HY.out, hv, decide_eq_false (show ¬ (Rul.id ⟨yid, yn, yr, ys, yd, ya, ynd, yok⟩) < (Rul.id ⟨id, nm, rk, se, de, am, nd, hs⟩) from by show ¬ (yid < id); omega)]; rfl)]; rfl), bth hb K.below⟩
      · have h8 : decide (xs.length ≤ 8) = false := decide_eq_false (by omega)
        go_wp2
        go_ret
        exact ⟨ret_bool (by rw [rulesB, h8, Bool.and_false]; exact decide_eq_false (by omega)), hb⟩
    · obtain rfl : k = xs.length := by omega
      go_wp2
      go_ret
      exact ⟨ret_bool (by rw [rulesB, HL.out]; simp; omega), hb⟩
end Go.Proofs.YtpkagohflkcnkaaGreatDoor
