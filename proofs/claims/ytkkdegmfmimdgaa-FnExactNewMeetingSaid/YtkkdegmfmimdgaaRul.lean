/- Rules: validity, the index of a rule, copies, comparisons. -/
import Derived.Test.YtkkdegmfmimdgaaStr
import Derived.Test.YtkkdegmfmimdgaaIdx
import Derived.Test.YtkkdegmfmimdgaaOwn
import Derived.Test.YtkkdegmfmimdgaaRes
import Derived.Test.YtkkdegmfmimdgaaBlk
namespace Go.Proofs.Ytkkdegmfmimdgaa
open Go.RowKit Go.G9
structure Rul where
  id : Int
  name : ByteArray
  rank : Int
  second : Bool
  debate : Bool
  amend : Bool
  need : Int
  ok : name.size ≤ maxLen
def Rul.cells (r : Rul) : List Value := [.int .i64 r.id, .string r.name, .int .i64 r.rank, .bool r.second, .bool r.debate, .bool r.amend, .int .i64 r.need]
structure Que where
  rule : Int
  mover : Int
  sec : Bool
def Que.cells (q : Que) : List Value := [.int .i64 q.rule, .int .i64 q.mover, .bool q.sec]
structure Sha where
  mem : Int
  turns : Int
  secs : Int
def Sha.cells (s : Sha) : List Value := [.int .i64 s.mem, .int .i64 s.turns, .int .i64 s.secs]
structure Out where
  rule : Int
  mover : Int
  ado : Bool
def Out.cells (o : Out) : List Value := [.int .i64 o.rule, .int .i64 o.mover, .bool o.ado]
def ruleB (r : Rul) : Bool := inB r.id 1 20 && (wordB r.name && (inB r.rank 0 9 && inB r.need 1 3))
def ruleStep (xs : List Rul) : Nat → Bool
  | 0 => match xs[0]? with | some x => ruleB x | none => true
  | j + 1 => match xs[j]?, xs[j+1]? with | some y, some x => ruleB x && (decide (y.id < x.id) && !(xs.take (j + 1)).any (fun z => z.name.toList == x.name.toList)) | _, _ => true
def rulesB (xs : List Rul) : Bool := allTo (ruleStep xs) xs.length && decide (xs.length ≤ 8)
theorem isValidRule_is (r : Rul) (v : Bool) (hv : ruleB r = v) (w : World) : Calls Try.prog 98 #[.agg #[.int .i64 r.id, .string r.name, .int .i64 r.rank, .bool r.second, .bool r.debate, .bool r.amend, .int .i64 r.need]] w fun e w' => e = .returned (.bool v) ∧ Below w.heap.size w w' := by
  subst hv
  obtain ⟨id, nm, rk, s, d, a, nd, hs⟩ := r
  go_enter Try.func98, Try.ntmps98
  go_wp2_with (first | (go_at_call 85; refine (inside_is _ _ _ _ rfl _).mono ?_; rintro e w' ⟨rfl, rfl⟩) | (go_at_call 114; refine (isWord_is _ hs _ rfl _).mono ?_; rintro e w' ⟨rfl, rfl⟩) | (go_at_call 115; refine (isNeed_is _ _ rfl _).mono ?_; rintro e w' ⟨rfl, rfl⟩))
  all_goals go_ret
  all_goals exact ⟨by simp [ruleB, *], bl1 _ _⟩
theorem l2Single_is (r : Rul) (v : Bool) (hv : ruleB r = v) (w : World) : Calls Try.prog 97 #[.agg #[.int .i64 r.id, .string r.name, .int .i64 r.rank, .bool r.second, .bool r.debate, .bool r.amend, .int .i64 r.need]] w fun e w' => e = .returned (.bool v) ∧ Below w.heap.size w w' := by
  subst hv
  obtain ⟨id, nm, rk, s, d, a, nd, hs⟩ := r
  go_enter Try.func97, Try.ntmps97
  go_wp2_with (first | (go_at_call 96; refine (l1In_is _ _ _ _ rfl _).mono ?_; rintro e w' ⟨rfl, rfl⟩) | (go_at_call 113; refine (l2Word_is _ hs _ rfl _).mono ?_; rintro e w' ⟨rfl, rfl⟩))
  all_goals go_ret
  all_goals exact ⟨by simp [ruleB, *], bl1 _ _⟩
set_option maxHeartbeats 1000000 in
set_option maxRecDepth 100000 in
theorem indexFunc_Rul (A : Option Addr) (c : Nat) (xs : List Rul) (hn : xs.length ≤ 1048576) (f : FuncId) (cv : Array Value) (hcall : ∀ args W, (callFunc f args).run Try.prog W = .ok (.enter f args) W) (p : Rul → Bool) (v : Int) (hv : idxB p xs = v) (w : World) (hR : Rds 7 Rul.cells w A xs)
    (hf : ∀ x, x ∈ xs → ∀ W, Below w.heap.size w W → Calls Try.prog f (#[.agg #[.int .i64 x.id, .string x.name, .int .i64 x.rank, .bool x.second, .bool x.debate, .bool x.amend, .int .i64 x.need]] ++ cv) W fun e w' => e = .returned (.bool (p x)) ∧ Below W.heap.size W w') :
  Calls Try.prog 90 #[.slice A xs.length c, .func (.func f) #[] cv] w fun e w' => e = .returned (.int .i64 v) ∧ Below w.heap.size w w' := by
  subst hv
  have HF := Lib.hid hf; clear hf
  go_enter Try.func90, Try.ntmps90
  go_wp2
  go_loopw [8] (fun i wr => ∃ k : Nat, k ≤ xs.length ∧ i = .int .i64 k ∧ allTo (fun i => !atB p xs i) k = true ∧ Below w.heap.size w wr) (fun i _ => xs.length - (intOf i).toNat)
  case atStart => exact ⟨0, Nat.zero_le _, rfl, rfl, Below.refl _ _⟩
  case round =>
    obtain ⟨k, hk, rfl, hl, hb⟩ := hrel
    have HL := Lib.hid hl; clear hl
    by_cases hlt : k < xs.length
    · obtain ⟨b, off, x, rfl, hbl, hx, hcx⟩ := hR.at_ hb hlt
      have HF' := Lib.hid (HF.out x (List.mem_of_getElem? hx))
      obtain ⟨rid, rnm, rrk, rse, rde, ram, rnd, rhs⟩ := x
      have f0 := hcx 0 _ rfl
      have f1 := hcx 1 _ rfl
      have f2 := hcx 2 _ rfl
      have f3 := hcx 3 _ rfl
      have f4 := hcx 4 _ rfl
      have f5 := hcx 5 _ rfl
      have f6 := hcx 6 _ rfl
      simp only [Nat.add_zero] at f0
      have g0 := f0 (Kin.self _)
      have g1 := f1 (Kin.self _)
      have g2 := f2 (Kin.self _)
      have g3 := f3 (Kin.self _)
      have g4 := f4 (Kin.self _)
      have g5 := f5 (Kin.self _)
      have g6 := f6 (Kin.self _)
      simp only [Kin.self] at g0
      simp only [Kin.self] at g1
      simp only [Kin.self] at g2
      simp only [Kin.self] at g3
      simp only [Kin.self] at g4
      simp only [Kin.self] at g5
      simp only [Kin.self] at g6
      have HX := Lib.hid hx; clear hx hcx
      go_wp2_with fail
      refine (HF'.out _ hb).mono ?_
      rintro e w' ⟨rfl, hb'⟩
      cases hp : p ⟨rid, rnm, rrk, rse, rde, ram, rnd, rhs⟩
      · go_wp2
        go_roundw
        case rel => exact ⟨k + 1, by omega, by go_num, allTo_go HL.out (by simp [atB, HX.out, hp]), bth hb hb'⟩
        case measure => simp [intOf]; omega
      · go_wp2
        go_ret
        exact ⟨ret_int (idxB_found hlt HL.out (by simp [atB, HX.out, hp])).symm, bth hb hb'⟩
    · obtain rfl : k = xs.length := by omega
      go_wp2
      go_ret
      exact ⟨ret_int (idxB_none HL.out).symm, hb⟩
theorem containsFunc_Rul (A : Option Addr) (c : Nat) (xs : List Rul) (hn : xs.length ≤ 1048576) (f : FuncId) (cv : Array Value) (hcall : ∀ args W, (callFunc f args).run Try.prog W = .ok (.enter f args) W) (p : Rul → Bool) (v : Bool) (hv : xs.any p = v) (w : World) (hR : Rds 7 Rul.cells w A xs)
    (hf : ∀ x, x ∈ xs → ∀ W, Below w.heap.size w W → Calls Try.prog f (#[.agg #[.int .i64 x.id, .string x.name, .int .i64 x.rank, .bool x.second, .bool x.debate, .bool x.amend, .int .i64 x.need]] ++ cv) W fun e w' => e = .returned (.bool (p x)) ∧ Below W.heap.size W w') :
  Calls Try.prog 99 #[.slice A xs.length c, .func (.func f) #[] cv] w fun e w' => e = .returned (.bool v) ∧ Below w.heap.size w w' := by
  subst hv
  have HF := Lib.hid hf; clear hf
  have hg := idxB_ge p xs
  have HG := Lib.hid hg; clear hg
  go_enter Try.func99, Try.ntmps99
  go_wp2_with fail
  refine (indexFunc_Rul A c xs hn f cv hcall p _ rfl _ hR HF.out).mono ?_
  rintro e w' ⟨rfl, hb⟩
  go_wp2
  go_ret
  exact ⟨ret_bool HG.out, hb⟩
theorem ruleIdxF_is (id : Int) (g : Nat) (x : Rul) (W : World) (hg : W.cell? ⟨g, 0, none⟩ = some (.int .i64 id)) (hl : g < W.heap.size) :
  Calls Try.prog 91 (#[.agg #[.int .i64 x.id, .string x.name, .int .i64 x.rank, .bool x.second, .bool x.debate, .bool x.amend, .int .i64 x.need]] ++ #[.pointer (some ⟨g, 0, none⟩)]) W fun e w' => e = .returned (.bool (x.id == id)) ∧ Below W.heap.size W w' := by
  cases hb : x.id == id
  all_goals
    have hb2 := Lib.hid hb
    go_enter Try.func91, Try.ntmps91
    go_wp2
    go_ret
    exact ⟨rfl, bl1 _ _⟩
theorem ruleIndex_is (A : Option Addr) (c : Nat) (xs : List Rul) (hn : xs.length ≤ 1048576) (id : Int) (v : Int) (hv : idxB (fun r => r.id == id) xs = v) (w : World) (hR : Rds 7 Rul.cells w A xs) :
  Calls Try.prog 50 #[.slice A xs.length c, .int .i64 id] w fun e w' => e = .returned (.int .i64 v) ∧ Below w.heap.size w w' := by
  have hf : ∀ x, x ∈ xs → ∀ W, Below (w.alloc (.cells #[.int .i64 id] 3)).heap.size (w.alloc (.cells #[.int .i64 id] 3)) W → Calls Try.prog 91 (#[.agg #[.int .i64 x.id, .string x.name, .int .i64 x.rank, .bool x.second, .bool x.debate, .bool x.amend, .int .i64 x.need]] ++ #[.pointer (some ⟨w.heap.size, 0, none⟩)]) W fun e w' => e = .returned (.bool (x.id == id)) ∧ Below W.heap.size W w' := fun x _ W hW => by
    have hB := Blk.below (Blk.new w 3 #[.int .i64 id]) hW (by simp)
    exact ruleIdxF_is id w.heap.size x W (hB.cell 0) hB.lt
  have hidx := indexFunc_Rul A c xs hn 91 #[.pointer (some ⟨w.heap.size, 0, none⟩)] (run_enter Try.func91 (by kernel_rfl) (by kernel_rfl)) (fun r => r.id == id) v hv (w.alloc (.cells #[.int .i64 id] 3)) (hR.below (bl1 _ _)) hf
  have HI := Lib.hid hidx; clear hidx hf hv
  go_enter Try.func50, Try.ntmps50
  go_wp2_with fail
  refine HI.out.mono ?_
  rintro e w1 ⟨rfl, hb⟩
  go_wp2
  go_ret
  exact ⟨rfl, bth (bl1 _ _) hb⟩
set_option maxHeartbeats 1000000 in
theorem l2Find_is (A : Option Addr) (c : Nat) (xs : List Rul) (hn : xs.length ≤ 1048576) (id : Int) (v : Int) (hv : idxB (fun r => r.id == id) xs = v) (w : World) (hR : Rds 7 Rul.cells w A xs) :
  Calls Try.prog 57 #[.slice A xs.length c, .int .i64 id] w fun e w' => e = .returned (.int .i64 v) ∧ w' = w := by
  subst hv
  go_enter Try.func57, Try.ntmps57
  go_wp2
  go_loop [5] (fun i => ∃ k : Nat, k ≤ xs.length ∧ i = .int .i64 k ∧ allTo (fun i => !atB (fun r : Rul => r.id == id) xs i) k = true) (fun i => xs.length - (intOf i).toNat)
  case atStart => exact ⟨0, Nat.zero_le _, rfl, rfl⟩
  case round =>
    obtain ⟨k, hk, rfl, hl⟩ := hrel
    have HL := Lib.hid hl; clear hl
    by_cases hlt : k < xs.length
    · obtain ⟨b, off, x, rfl, hbl, hx, hcx⟩ := hR.at_ (Below.refl _ _) hlt
      obtain ⟨xid, nm, rk, s, d, a, nd, hs⟩ := x
      have g0 := hcx 0 _ rfl (Kin.self _)
      simp only [Nat.add_zero, Kin.self] at g0
      have HX := Lib.hid hx; clear hx hcx
      by_cases he : xid = id
      · have he' : (xid == id) = true := beq_iff_eq.2 he
        have HE := Lib.hid he'
        go_wp2
        go_ret
        exact ⟨ret_int (idxB_found hlt HL.out (by simp [atB, HX.out, HE.out])).symm, rfl⟩
      · have he' : (xid == id) = false := beq_eq_false_iff_ne.2 he
        go_wp2
        go_round
        case rel => exact ⟨k + 1, by omega, by go_num, allTo_go HL.out (by simp [atB, HX.out, he'])⟩
        case measure => simp [intOf]; omega
    · obtain rfl : k = xs.length := by omega
      go_wp2
      go_ret
      exact ⟨ret_int (idxB_none HL.out).symm, rfl⟩
end Go.Proofs.Ytkkdegmfmimdgaa
