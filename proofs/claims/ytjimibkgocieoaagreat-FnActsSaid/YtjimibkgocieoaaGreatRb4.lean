/- Texts of the proof: walks of the functions, and what they compute. -/
import Derived.Test.YtjimibkgocieoaaGreatRb0
import Derived.Test.YtjimibkgocieoaaGreatRb3
import Derived.Deep.RegionWith
import Derived.Deep.Cut
set_option maxHeartbeats 16000000
set_option maxRecDepth 100000
namespace Go.Proofs.YtjimibkgocieoaaGreat
open Go.RowKit Go.G9
structure Rul where
 id : Int
 name : ByteArray
 rank : Int
 second : Bool
 debate : Bool
 amend : Bool
 need : Int
 ok : name.size ≤ maxLen
def Rul.cells (r : Rul) : List Value := [.int .i64 r.id, .string r.name, .int .i64 r.rank, .bool r.second, .bool r.debate, .bool r.amend, .int .i64 r.need]
structure Que where
 rule : Int
 mover : Int
 sec : Bool
def Que.cells (q : Que) : List Value := [.int .i64 q.rule, .int .i64 q.mover, .bool q.sec]
structure Sha where
 mem : Int
 turns : Int
 secs : Int
def Sha.cells (s : Sha) : List Value := [.int .i64 s.mem, .int .i64 s.turns, .int .i64 s.secs]
structure Out where
 rule : Int
 mover : Int
 ado : Bool
def Out.cells (o : Out) : List Value := [.int .i64 o.rule, .int .i64 o.mover, .bool o.ado]
def ruleB (r : Rul) : Bool := inB r.id 1 20 && (wordB r.name && (inB r.rank 0 9 && inB r.need 1 3))
def ruleStep (xs : List Rul) : Nat → Bool
 | 0 => match xs[0]? with | some x => ruleB x | none => true
 | j + 1 => match xs[j]?, xs[j+1]? with | some y, some x => ruleB x && (decide (y.id < x.id) && !(xs.take (j + 1)).any (fun z => z.name.toList == x.name.toList)) | _, _ => true
def rulesB (xs : List Rul) : Bool := allTo (ruleStep xs) xs.length && decide (xs.length ≤ 8)
theorem isValidRule_is (r : Rul) (v : Bool) (hv : ruleB r = v) (w : World) : Calls Tryz.prog 129 #[.agg #[.int .i64 r.id, .string r.name, .int .i64 r.rank, .bool r.second, .bool r.debate, .bool r.amend, .int .i64 r.need]] w fun e w' => e = .returned (.bool v) ∧ Below w.heap.size w w' := by
 subst hv
 obtain ⟨id, nm, rk, s, d, a, nd, hs⟩ := r
 go_in
 go_wp2_with (first | (go_at_call 118; refine (inside_is _ _ _ _ rfl _).mono ?_; rintro e w' ⟨rfl, rfl⟩) | (go_at_call 186; refine (isWord_is _ hs _ rfl _).mono ?_; rintro e w' ⟨rfl, rfl⟩) | (go_at_call 59; refine (isNeed_is _ _ rfl _).mono ?_; rintro e w' ⟨rfl, rfl⟩))
 all_goals go_ret
 all_goals exact ⟨by simp [ruleB, *], bl1 _ _⟩
theorem l2Single_is (r : Rul) (v : Bool) (hv : ruleB r = v) (w : World) : Calls Tryz.prog 132 #[.agg #[.int .i64 r.id, .string r.name, .int .i64 r.rank, .bool r.second, .bool r.debate, .bool r.amend, .int .i64 r.need]] w fun e w' => e = .returned (.bool v) ∧ Below w.heap.size w w' := by
 subst hv
 obtain ⟨id, nm, rk, s, d, a, nd, hs⟩ := r
 go_in
 go_wp2_with (first | (go_at_call 136; refine (l1In_is _ _ _ _ rfl _).mono ?_; rintro e w' ⟨rfl, rfl⟩) | (go_at_call 187; refine (l2Word_is _ hs _ rfl _).mono ?_; rintro e w' ⟨rfl, rfl⟩))
 all_goals go_ret
 all_goals exact ⟨by simp [ruleB, *], bl1 _ _⟩
theorem zb112 {p : Prop} (h : p := by
 go_wp2
 go_roundw
 case rel => exact ⟨k + 1, by omega, by go_num, allTo_go HL.out (by simp [atB, HX.out, hp]), bth hb hb'⟩
 case measure => simp [intOf]; omega) : p := h
theorem zb144 {p : Prop} (h : p := by
 go_wp2
 go_ret
 exact ⟨ret_int (idxB_found hlt HL.out (by simp [atB, HX.out, hp])).symm, bth hb hb'⟩) : p := h
theorem indexFunc_Rul (A : Option Addr) (c : Nat) (xs : List Rul) (hn : xs.length ≤ 1048576) (f : FuncId) (cv : Array Value) (hcall : ∀ args W, (callFunc f args).run Tryz.prog W = .ok (.enter f args) W) (p : Rul → Bool) (v : Int) (hv : idxB p xs = v) (w : World) (hR : Rds 7 Rul.cells w A xs)
  (hf : ∀ x, x ∈ xs → ∀ W, Below w.heap.size w W → Calls Tryz.prog f (#[.agg #[.int .i64 x.id, .string x.name, .int .i64 x.rank, .bool x.second, .bool x.debate, .bool x.amend, .int .i64 x.need]] ++ cv) W fun e w' => e = .returned (.bool (p x)) ∧ Below W.heap.size W w') :
 Calls Tryz.prog 123 #[.slice A xs.length c, .func (.func f) #[] cv] w fun e w' => e = .returned (.int .i64 v) ∧ Below w.heap.size w w' := by
 subst hv
 have HF := lh hf; clear hf
 go_in
 go_wp2
 go_loopw [8] (fun i wr => ∃ k : Nat, k ≤ xs.length ∧ i = .int .i64 k ∧ allTo (fun i => !atB p xs i) k = true ∧ Below w.heap.size w wr) (fun i _ => xs.length - (intOf i).toNat)
 case atStart => exact ⟨0, Nat.zero_le _, rfl, rfl, Below.refl _ _⟩
 case round =>
  obtain ⟨k, hk, rfl, hl, hb⟩ := hrel
  have HL := lh hl; clear hl
  by_cases hlt : k < xs.length
  ·obtain ⟨b, off, x, rfl, hbl, hx, hcx⟩ := hR.at_ hb hlt
   have HF' := lh (HF.out x (List.mem_of_getElem? hx))
   obtain ⟨rid, rnm, rrk, rse, rde, ram, rnd, rhs⟩ := x
   have f0 := hcx 0 _ rfl; have f1 := hcx 1 _ rfl; have f2 := hcx 2 _ rfl; have f3 := hcx 3 _ rfl; have f4 := hcx 4 _ rfl; have f5 := hcx 5 _ rfl; have f6 := hcx 6 _ rfl
   simp only [Nat.add_zero] at f0
   have g0 := f0 (Kin.self _); have g1 := f1 (Kin.self _); have g2 := f2 (Kin.self _); have g3 := f3 (Kin.self _); have g4 := f4 (Kin.self _); have g5 := f5 (Kin.self _); have g6 := f6 (Kin.self _)
   simp only [Kin.self] at g0
   simp only [Kin.self] at g1
   simp only [Kin.self] at g2
   simp only [Kin.self] at g3
   simp only [Kin.self] at g4
   simp only [Kin.self] at g5
   simp only [Kin.self] at g6
   have HX := lh hx; clear hx hcx
   go_wp2_with fail
   refine (HF'.out _ hb).mono ?_
   rintro e w' ⟨rfl, hb'⟩
   cases hp : p ⟨rid, rnm, rrk, rse, rde, ram, rnd, rhs⟩
   ·exact zb112
   ·exact zb144
  ·exact zb146
theorem containsFunc_Rul (A : Option Addr) (c : Nat) (xs : List Rul) (hn : xs.length ≤ 1048576) (f : FuncId) (cv : Array Value) (hcall : ∀ args W, (callFunc f args).run Tryz.prog W = .ok (.enter f args) W) (p : Rul → Bool) (v : Bool) (hv : xs.any p = v) (w : World) (hR : Rds 7 Rul.cells w A xs)
  (hf : ∀ x, x ∈ xs → ∀ W, Below w.heap.size w W → Calls Tryz.prog f (#[.agg #[.int .i64 x.id, .string x.name, .int .i64 x.rank, .bool x.second, .bool x.debate, .bool x.amend, .int .i64 x.need]] ++ cv) W fun e w' => e = .returned (.bool (p x)) ∧ Below W.heap.size W w') :
 Calls Tryz.prog 130 #[.slice A xs.length c, .func (.func f) #[] cv] w fun e w' => e = .returned (.bool v) ∧ Below w.heap.size w w' := by
 subst hv
 have HF := lh hf; clear hf; have hg := idxB_ge p xs; have HG := lh hg; clear hg
 go_in
 go_wp2_with fail
 refine (indexFunc_Rul A c xs hn f cv hcall p _ rfl _ hR HF.out).mono ?_
 rintro e w' ⟨rfl, hb⟩
 go_wp2
 go_ret
 exact ⟨ret_bool HG.out, hb⟩
theorem ruleIdxF_is (id : Int) (g : Nat) (x : Rul) (W : World) (hg : W.cell? ⟨g, 0, none⟩ = some (.int .i64 id)) (hl : g < W.heap.size) :
 Calls Tryz.prog 124 (#[.agg #[.int .i64 x.id, .string x.name, .int .i64 x.rank, .bool x.second, .bool x.debate, .bool x.amend, .int .i64 x.need]] ++ #[.pointer (some ⟨g, 0, none⟩)]) W fun e w' => e = .returned (.bool (x.id == id)) ∧ Below W.heap.size W w' := by
 cases hb : x.id == id
 all_goals
  go_in
  go_wp2
  go_ret
  exact ⟨rfl, bl1 _ _⟩
theorem ruleIndex_is (A : Option Addr) (c : Nat) (xs : List Rul) (hn : xs.length ≤ 1048576) (id : Int) (v : Int) (hv : idxB (fun r => r.id == id) xs = v) (w : World) (hR : Rds 7 Rul.cells w A xs) :
 Calls Tryz.prog 56 #[.slice A xs.length c, .int .i64 id] w fun e w' => e = .returned (.int .i64 v) ∧ Below w.heap.size w w' := by
 have hf : ∀ x, x ∈ xs → ∀ W, Below (w.alloc (.cells #[.int .i64 id] 3)).heap.size (w.alloc (.cells #[.int .i64 id] 3)) W → Calls Tryz.prog 124 (#[.agg #[.int .i64 x.id, .string x.name, .int .i64 x.rank, .bool x.second, .bool x.debate, .bool x.amend, .int .i64 x.need]] ++ #[.pointer (some ⟨w.heap.size, 0, none⟩)]) W fun e w' => e = .returned (.bool (x.id == id)) ∧ Below W.heap.size W w' := fun x _ W hW => by
  have hB := Blk.below (Blk.new w 3 #[.int .i64 id]) hW (by simp)
  exact ruleIdxF_is id w.heap.size x W (hB.cell 0) hB.lt
 have hidx := indexFunc_Rul A c xs hn 124 #[.pointer (some ⟨w.heap.size, 0, none⟩)] (run_enter Tryz.func124 (by kernel_rfl) (by kernel_rfl)) (fun r => r.id == id) v hv (w.alloc (.cells #[.int .i64 id] 3)) (hR.below (bl1 _ _)) hf; have HI := lh hidx; clear hidx hf hv
 go_in
 go_wp2_with fail
 refine HI.out.mono ?_
 rintro e w1 ⟨rfl, hb⟩
 go_wp2
 go_ret
 exact ⟨rfl, bth (bl1 _ _) hb⟩
theorem l2Find_is (A : Option Addr) (c : Nat) (xs : List Rul) (hn : xs.length ≤ 1048576) (id : Int) (v : Int) (hv : idxB (fun r => r.id == id) xs = v) (w : World) (hR : Rds 7 Rul.cells w A xs) :
 Calls Tryz.prog 65 #[.slice A xs.length c, .int .i64 id] w fun e w' => e = .returned (.int .i64 v) ∧ w' = w := by
 subst hv
 go_in
 go_wp2
 go_loop [5] (fun i => ∃ k : Nat, k ≤ xs.length ∧ i = .int .i64 k ∧ allTo (fun i => !atB (fun r : Rul => r.id == id) xs i) k = true) (fun i => xs.length - (intOf i).toNat)
 case atStart => exact ⟨0, Nat.zero_le _, rfl, rfl⟩
 case round =>
  obtain ⟨k, hk, rfl, hl⟩ := hrel
  have HL := lh hl; clear hl
  by_cases hlt : k < xs.length
  ·obtain ⟨b, off, x, rfl, hbl, hx, hcx⟩ := hR.at_ (Below.refl _ _) hlt
   obtain ⟨xid, nm, rk, s, d, a, nd, hs⟩ := x
   have g0 := hcx 0 _ rfl (Kin.self _)
   simp only [Nat.add_zero, Kin.self] at g0
   have HX := lh hx; clear hx hcx
   by_cases he : xid = id
   ·have he' : (xid == id) = true := beq_iff_eq.2 he
    have HE := lh he'
    go_wp2
    go_ret
    exact ⟨ret_int (idxB_found hlt HL.out (by simp [atB, HX.out, HE.out])).symm, rfl⟩
   ·have he' : (xid == id) = false := beq_eq_false_iff_ne.2 he
    go_wp2
    go_round
    case rel => exact ⟨k + 1, by omega, by go_num, allTo_go HL.out (by simp [atB, HX.out, he'])⟩
    case measure => simp [intOf]; omega
  ·obtain rfl : k = xs.length := by omega
   go_wp2
   go_ret
   exact ⟨ret_int (idxB_none HL.out).symm, rfl⟩
open Go.RowKit Go.G9
theorem info_Rul : (Tryz.prog.info? 48).map (fun i => (i.zero, i.size, i.bytes)) = some (some (.agg #[.int .i64 0, .string ⟨#[]⟩, .int .i64 0, .bool false, .bool false, .bool false, .int .i64 0]), 7, 48) := by kernel_rfl
theorem info_Que : (Tryz.prog.info? 46).map (fun i => (i.zero, i.size, i.bytes)) = some (some (.agg #[.int .i64 0, .int .i64 0, .bool false]), 3, 24) := by kernel_rfl
theorem info_Sha : (Tryz.prog.info? 144).map (fun i => (i.zero, i.size, i.bytes)) = some (some (.agg #[.int .i64 0, .int .i64 0, .int .i64 0]), 3, 24) := by kernel_rfl
theorem info_Out : (Tryz.prog.info? 44).map (fun i => (i.zero, i.size, i.bytes)) = some (some (.agg #[.int .i64 0, .int .i64 0, .bool false]), 3, 24) := by kernel_rfl
open Go.RowKit Go.G9
theorem anyTake_no {T : Type} {p : T → Bool} {xs : List T} {k : Nat} (h : allTo (fun i => !atB p xs i) k = true) : (xs.take k).any p = false := by
 cases hc : (xs.take k).any p with
 | false => rfl
 | true =>
  obtain ⟨x, hx, hp⟩ := List.any_eq_true.1 hc
  obtain ⟨m, hm⟩ := List.mem_iff_getElem?.1 hx
  rw [List.getElem?_take] at hm
  split at hm
  ·rename_i hlt
   have := allTo_iff.1 h m hlt
   simp [atB, hm, hp] at this
  ·cases hm
theorem anyTake_yes {T : Type} {p : T → Bool} {xs : List T} {k m : Nat} {x : T} (hm : m < k) (hx : xs[m]? = some x) (hp : p x = true) : (xs.take k).any p = true :=
 List.any_eq_true.2 ⟨x, List.mem_iff_getElem?.2 ⟨m, by rw [List.getElem?_take, if_pos hm]; exact hx⟩, hp⟩
theorem rds_takeR {T : Type} {sz : Nat} {f : T → List Value} {w : World} {A : Option Addr} {xs : List T} (h : Rds sz f w A xs) (k : Nat) : Rds sz f w A (xs.take k) := by
 intro hn
 have hn0 : 0 < xs.length := by simp at hn; omega
 obtain ⟨b, off, h1, h2, h3⟩ := h hn0
 exact ⟨b, off, h1, h2, fun i x hx j u hu => h3 i x (by rw [List.getElem?_take] at hx; split at hx; exact hx; cases hx) j u hu⟩
theorem ruleStep_succ {xs : List Rul} {j : Nat} {x y : Rul} (hx : xs[j + 1]? = some x) (hy : xs[j]? = some y) : ruleStep xs (j + 1) = (ruleB x && (decide (y.id < x.id) && !(xs.take (j + 1)).any (fun z => z.name.toList == x.name.toList))) := by
 simp only [ruleStep, hx, hy]
theorem ruleNmF_is (nm : ByteArray) (g : Nat) (x : Rul) (W : World) (hg : W.cell? ⟨g, 1, none⟩ = some (.string nm)) (hl : g < W.heap.size) :
 Calls Tryz.prog 131 (#[.agg #[.int .i64 x.id, .string x.name, .int .i64 x.rank, .bool x.second, .bool x.debate, .bool x.amend, .int .i64 x.need]] ++ #[.pointer (some ⟨g, 0, none⟩)]) W fun e w' => e = .returned (.bool (x.name.toList == nm.toList)) ∧ Below W.heap.size W w' := by
 cases hb : x.name.toList == nm.toList
 all_goals
  have hb2 := lh hb
  go_in
  go_wp2
  go_ret
  exact ⟨rfl, bl1 _ _⟩
theorem zb133 {p : Prop} (h : p := by
 obtain rfl : k = xs.length := by omega
 go_wp2
 go_ret
 exact ⟨ret_bool (by rw [rulesB, HL.out]; simp; omega), hb⟩) : p := h
theorem isValidRules_is (A : Option Addr) (c : Nat) (xs : List Rul) (hn : xs.length ≤ 1048576) (hc : xs.length ≤ c) (v : Bool) (hv : rulesB xs = v) (w : World) (hR : Rds 7 Rul.cells w A xs) :
 Calls Tryz.prog 69 #[.slice A xs.length c] w fun e w' => e = .returned (.bool v) ∧ Below w.heap.size w w' := by
 subst hv
 go_in
 go_wp2
 go_loopw [7] (fun i wr => ∃ k : Nat, k ≤ xs.length ∧ i = .int .i64 k ∧ allTo (ruleStep xs) k = true ∧ Below w.heap.size w wr) (fun i _ => xs.length - (intOf i).toNat)
 case atStart => exact ⟨0, Nat.zero_le _, rfl, rfl, Below.refl _ _⟩
 case round =>
  obtain ⟨k, hk, rfl, hl, hb⟩ := hrel
  have HL := lh hl; clear hl
  by_cases hlt : k < xs.length
  ·have hkc : (k : Int) ≤ (c : Int) := by omega
   have hRw := hR.below hb
   obtain ⟨b, off, x, rfl, hbl, hx, hcx⟩ := hR.at_ hb hlt
   obtain ⟨id, nm, rk, se, de, am, nd, hs⟩ := x
   have hbx := fun j => boxed wr #[.int .i64 id, .string nm, .int .i64 rk, .bool se, .bool de, .bool am, .int .i64 nd] 48 j
   have n0 := hbx 0 _ rfl; have n1 := hbx 1 _ rfl; have n2 := hbx 2 _ rfl; have n3 := hbx 3 _ rfl; have n4 := hbx 4 _ rfl; have n5 := hbx 5 _ rfl; have n6 := hbx 6 _ rfl; clear hbx
   obtain ⟨d, hd⟩ : ∃ d, (xs.take k).any (fun z => z.name.toList == nm.toList) = d := ⟨_, rfl⟩
   have HCF : Hid (∀ W cc, Below (wr.alloc (.cells #[.int .i64 id, .string nm, .int .i64 rk, .bool se, .bool de, .bool am, .int .i64 nd] 48)).heap.size (wr.alloc (.cells #[.int .i64 id, .string nm, .int .i64 rk, .bool se, .bool de, .bool am, .int .i64 nd] 48)) W →
     Calls Tryz.prog 130 #[.slice (some ⟨b, off, none⟩) k cc, .func (.func 131) #[] #[.pointer (some ⟨wr.heap.size, 0, none⟩)]] W fun e w' => e = .returned (.bool d) ∧ Below W.heap.size W w') := lh fun W cc hW => by
    have hkl : (xs.take k).length = k := by rw [List.length_take]; omega
    have hB := Blk.below (Blk.new wr 48 #[.int .i64 id, .string nm, .int .i64 rk, .bool se, .bool de, .bool am, .int .i64 nd]) hW (by simp); have h := containsFunc_Rul (some ⟨b, off, none⟩) cc (xs.take k) (by omega) 131 #[.pointer (some ⟨wr.heap.size, 0, none⟩)] (run_enter Tryz.func131 (by kernel_rfl) (by kernel_rfl)) (fun z => z.name.toList == nm.toList) d hd W ((rds_takeR hRw k).below (bth (bl1 _ _) hW)) (fun x _ V hV => ruleNmF_is nm wr.heap.size x V ((hB.to hV).cell 1) (hB.to hV).lt)
    rw [hkl] at h; exact h
   have HD := lh hd; clear hd hRw
   cases k with
   | zero =>
    have hd0 : d = false := by rw [← HD.out]; rfl
    subst hd0
    have f0 := hcx 0 _ rfl; have f1 := hcx 1 _ rfl; have f2 := hcx 2 _ rfl; have f3 := hcx 3 _ rfl; have f4 := hcx 4 _ rfl; have f5 := hcx 5 _ rfl; have f6 := hcx 6 _ rfl
    simp only [Nat.zero_mul, Nat.add_zero] at f0
    simp only [Nat.zero_mul] at f1
    simp only [Nat.zero_mul] at f2
    simp only [Nat.zero_mul] at f3
    simp only [Nat.zero_mul] at f4
    simp only [Nat.zero_mul] at f5
    simp only [Nat.zero_mul] at f6
    have g0 := f0 (Kin.self _); have g1 := f1 (Kin.self _); have g2 := f2 (Kin.self _); have g3 := f3 (Kin.self _); have g4 := f4 (Kin.self _); have g5 := f5 (Kin.self _); have g6 := f6 (Kin.self _)
    simp only [Kin.self] at g0
    simp only [Kin.self] at g1
    simp only [Kin.self] at g2
    simp only [Kin.self] at g3
    simp only [Kin.self] at g4
    simp only [Kin.self] at g5
    simp only [Kin.self] at g6
    have HX := lh hx; clear hx hcx
    cases hv : ruleB ⟨id, nm, rk, se, de, am, nd, hs⟩
    all_goals
     have HV := lh hv
     go_wp2
     refine wp_region_kin (by kernel_rfl) (by kernel_rfl) ?_
     repeat (go_big_quiet_step ((first | (go_at_call 129; exact Kin.call _ (Nat.le_refl _) (isValidRule_is ⟨id, nm, rk, se, de, am, nd, hs⟩ _ HV.out _)) | (go_at_call 130; exact Kin.call _ (Nat.le_refl _) (HCF.out _ _ (Kin.below _))))))
     refine wpQuiet_nil ?_
     intro K
     go_wp2
    ·go_ret
     exact ⟨ret_bool (by rw [rulesB, allTo_not hlt (by simp [ruleStep, HX.out, hv])]; rfl), bth hb (bth (bl1 _ _) K.below)⟩
    ·go_roundw
     case rel => exact ⟨1, by omega, by go_num, allTo_go HL.out (by simp [ruleStep, HX.out, hv]), bth hb (bth (bl1 _ _) K.below)⟩
     case measure => simp [intOf]; omega
   | succ j =>
    obtain ⟨b', off', y, e', _, hy, hcy⟩ := hR.at_ hb (k := j) (by omega)
    simp only [Option.some.injEq, Addr.mk.injEq, and_true] at e'
    obtain ⟨rfl, rfl⟩ := e'
    obtain ⟨yid, yn, yr, ys, yd, ya, ynd, yok⟩ := y
    have f0 := hcx 0 _ rfl; have f1 := hcx 1 _ rfl; have f2 := hcx 2 _ rfl; have f3 := hcx 3 _ rfl; have f4 := hcx 4 _ rfl; have f5 := hcx 5 _ rfl; have f6 := hcx 6 _ rfl
    simp only [Nat.add_zero] at f0
    have g0 := f0 (Kin.self _); have g1 := f1 (Kin.self _); have g2 := f2 (Kin.self _); have g3 := f3 (Kin.self _); have g4 := f4 (Kin.self _); have g5 := f5 (Kin.self _); have g6 := f6 (Kin.self _)
    simp only [Kin.self] at g0
    simp only [Kin.self] at g1
    simp only [Kin.self] at g2
    simp only [Kin.self] at g3
    simp only [Kin.self] at g4
    simp only [Kin.self] at g5
    simp only [Kin.self] at g6
    have y0 := hcy 0 _ rfl
    simp only [Nat.add_zero] at y0
    have y0' := fun K : Kin (wr.alloc _).heap.size (wr.alloc (.cells #[.int .i64 id, .string nm, .int .i64 rk, .bool se, .bool de, .bool am, .int .i64 nd] 48)) => y0 (K.drop (bl1 _ _))
    simp only [Kin.drop] at y0'
    have HX := lh hx; clear hx hcx; have HY := lh hy; clear hy hcy y0
    cases hv : ruleB ⟨id, nm, rk, se, de, am, nd, hs⟩
    ·have HV := lh hv
     go_wp2
     refine wp_region_kin (by kernel_rfl) (by kernel_rfl) ?_
     repeat (go_big_quiet_step ((first | (go_at_call 129; exact Kin.call _ (Nat.le_refl _) (isValidRule_is ⟨id, nm, rk, se, de, am, nd, hs⟩ _ HV.out _)) | (go_at_call 130; exact Kin.call _ (Nat.le_refl _) (HCF.out _ _ (Kin.below _))))))
     refine wpQuiet_nil ?_
     intro K
     go_wp2
     go_ret
     exact ⟨ret_bool (by rw [rulesB, allTo_not hlt (by simp [ruleStep, HX.out, HY.out, hv])]; rfl), bth hb (bth (bl1 _ _) K.below)⟩
    ·have HV := lh hv
     by_cases hid : yid < id
     ·have hle : decide (id ≤ yid) = false := decide_eq_false (by omega)
      cases d
      all_goals
       go_wp2
       refine wp_region_kin (by kernel_rfl) (by kernel_rfl) ?_
       repeat (go_big_quiet_step ((first | (go_at_call 129; exact Kin.call _ (Nat.le_refl _) (isValidRule_is ⟨id, nm, rk, se, de, am, nd, hs⟩ _ HV.out _)) | (go_at_call 130; exact Kin.call _ (Nat.le_refl _) (HCF.out _ _ (Kin.below _))))))
       refine wpQuiet_nil ?_
       intro K
       go_wp2
      ·go_roundw
       case rel => exact ⟨j + 1 + 1, by omega, by go_num, allTo_go HL.out (by rw [ruleStep_succ HX.out HY.out, hv, HD.out, decide_eq_true (show (Rul.id ⟨yid, yn, yr, ys, yd, ya, ynd, yok⟩) < (Rul.id ⟨id, nm, rk, se, de, am, nd, hs⟩) from hid)]; rfl), bth hb (bth (bl1 _ _) K.below)⟩
       case measure => simp [intOf]; omega
      ·go_ret
       exact ⟨ret_bool (by rw [rulesB, allTo_not hlt (by rw [ruleStep_succ HX.out HY.out, hv, HD.out, decide_eq_true (show (Rul.id ⟨yid, yn, yr, ys, yd, ya, ynd, yok⟩) < (Rul.id ⟨id, nm, rk, se, de, am, nd, hs⟩) from hid)]; rfl)]; rfl), bth hb (bth (bl1 _ _) K.below)⟩
     ·have hle : decide (id ≤ yid) = true := decide_eq_true (by omega)
      go_wp2
      refine wp_region_kin (by kernel_rfl) (by kernel_rfl) ?_
      repeat (go_big_quiet_step ((first | (go_at_call 129; exact Kin.call _ (Nat.le_refl _) (isValidRule_is ⟨id, nm, rk, se, de, am, nd, hs⟩ _ HV.out _)) | (go_at_call 130; exact Kin.call _ (Nat.le_refl _) (HCF.out _ _ (Kin.below _))))))
      refine wpQuiet_nil ?_
      intro K
      go_wp2
      go_ret
      exact ⟨ret_bool (by rw [rulesB, allTo_not hlt (by rw [ruleStep_succ HX.out HY.out, hv, decide_eq_false (show ¬ (Rul.id ⟨yid, yn, yr, ys, yd, ya, ynd, yok⟩) < (Rul.id ⟨id, nm, rk, se, de, am, nd, hs⟩) from by show ¬ (yid < id); omega)]; rfl)]; rfl), bth hb (bth (bl1 _ _) K.below)⟩
  ·exact zb133
open Go.RowKit Go.G9
theorem idx_cases {T : Type} (p : T → Bool) : ∀ xs : List T, (xs.findIdx? p = none ∧ xs.find? p = none) ∨ ∃ (k : Nat) (x : T), xs.findIdx? p = some k ∧ xs[k]? = some x ∧ xs.find? p = some x
 | [] => .inl ⟨rfl, rfl⟩
 | y :: ys => by
  cases hp : p y
  ·rcases idx_cases p ys with ⟨h1, h2⟩ | ⟨k, x, h1, h2, h3⟩
   ·left; simp [List.findIdx?_cons, hp, h1, h2]
   ·right; exact ⟨k + 1, x, by simp [List.findIdx?_cons, hp, h1], by simpa using h2, by simp [hp, h3]⟩
  ·right; exact ⟨0, y, by simp [List.findIdx?_cons, hp], rfl, by simp [hp]⟩
theorem idxB_some {T : Type} {p : T → Bool} {xs : List T} {x : T} (h : xs.find? p = some x) : ∃ k : Nat, idxB p xs = k ∧ xs[k]? = some x := by
 rcases idx_cases p xs with ⟨h1, h2⟩ | ⟨k, y, h1, h2, h3⟩
 ·rw [h2] at h; cases h
 ·rw [h3] at h; cases h; exact ⟨k, by simp [idxB, h1], h2⟩
theorem idxB_nil {T : Type} {p : T → Bool} {xs : List T} (h : xs.find? p = none) : idxB p xs = -1 := by
 rcases idx_cases p xs with ⟨h1, h2⟩ | ⟨k, y, h1, h2, h3⟩
 ·simp [idxB, h1]
 ·rw [h3] at h; cases h
def fnd (rs : List Rul) (id : Int) : Option Rul := rs.find? (fun r => r.id == id)
def memB (n : Int) : Bool := inB n 1 99
def lackB (r : Rul) (q : Que) : Bool := r.second && !q.sec
theorem isMember_is (n : Int) (v : Bool) (hv : memB n = v) (w : World) : Calls Tryz.prog 57 #[.int .i64 n] w fun e w' => e = .returned (.bool v) ∧ w' = w := by
 go_in
 go_wp2_with (go_at_call 118; refine (inside_is _ _ _ _ hv _).mono ?_; rintro e w' ⟨rfl, rfl⟩)
 go_ret
 exact ⟨rfl, rfl⟩
theorem l7Member_is (n : Int) (v : Bool) (hv : memB n = v) (w : World) : Calls Tryz.prog 77 #[.int .i64 n] w fun e w' => e = .returned (.bool v) ∧ w' = w := by
 go_in
 go_wp2_with (go_at_call 136; refine (l1In_is _ _ _ _ hv _).mono ?_; rintro e w' ⟨rfl, rfl⟩)
 go_ret
 exact ⟨rfl, rfl⟩
theorem ruleOf_is (A : Option Addr) (c : Nat) (rs : List Rul) (hn : rs.length ≤ 1048576) (q : Que) (r : Rul) (hr : fnd rs q.rule = some r) (w : World) (hR : Rds 7 Rul.cells w A rs) :
 Calls Tryz.prog 64 #[.slice A rs.length c, .agg #[.int .i64 q.rule, .int .i64 q.mover, .bool q.sec]] w fun e w' => e = .returned (.agg #[.int .i64 r.id, .string r.name, .int .i64 r.rank, .bool r.second, .bool r.debate, .bool r.amend, .int .i64 r.need]) ∧ Below w.heap.size w w' := by
 obtain ⟨k, hi, hk⟩ := idxB_some hr
 have hlt : k < rs.length := (List.getElem?_eq_some_iff.1 hk).1; have HI := lh hi; clear hi hr
 go_in
 go_upto_region 1 with fail
 refine lay2 fun wZ hq1 hQ hZ => ?_
 replace hR := hR.below hq1; have HB := hq1; have q' := hQ.cs3; have z0 := (hZ.cell 0).trans (show _ = some (.int .i64 0) from rfl); have z1 := (hZ.cell 1).trans (show _ = some (.string ⟨#[]⟩) from rfl); have z2 := (hZ.cell 2).trans (show _ = some (.int .i64 0) from rfl); have z3 := (hZ.cell 3).trans (show _ = some (.bool false) from rfl); have z4 := (hZ.cell 4).trans (show _ = some (.bool false) from rfl)
 have z5 := (hZ.cell 5).trans (show _ = some (.bool false) from rfl); have z6 := (hZ.cell 6).trans (show _ = some (.int .i64 0) from rfl); have hz0 := hZ.lt
 go_wp2_with fail
 refine (ruleIndex_is A c rs hn q.rule _ HI.out _ (hR.below bel)).mono ?_
 rintro e w2 ⟨rfl, hb2⟩
 have hq2 := be wZ hb2; replace HB := bth HB hq2; replace hR := hR.below hq2; replace hQ := hQ.to hq2; clear q'; have q' := hQ.cs3; replace hZ := hZ.to hq2; replace z0 := (hZ.cell 0).trans (show _ = some (.int .i64 0) from rfl); replace z1 := (hZ.cell 1).trans (show _ = some (.string ⟨#[]⟩) from rfl); replace z2 := (hZ.cell 2).trans (show _ = some (.int .i64 0) from rfl); replace z3 := (hZ.cell 3).trans (show _ = some (.bool false) from rfl)
 replace z4 := (hZ.cell 4).trans (show _ = some (.bool false) from rfl); replace z5 := (hZ.cell 5).trans (show _ = some (.bool false) from rfl); replace z6 := (hZ.cell 6).trans (show _ = some (.int .i64 0) from rfl)
 obtain ⟨b, off, r', rfl, hbl, hx, hcx⟩ := hR.at_ (Below.refl _ _) hlt
 obtain rfl : r = r' := Option.some.inj (hk.symm.trans hx)
 have f0 := hcx 0 _ rfl; have f1 := hcx 1 _ rfl; have f2 := hcx 2 _ rfl; have f3 := hcx 3 _ rfl; have f4 := hcx 4 _ rfl; have f5 := hcx 5 _ rfl; have f6 := hcx 6 _ rfl
 simp only [Nat.add_zero] at f0
 have g0 := f0 (Kin.self _); have g1 := f1 (Kin.self _); have g2 := f2 (Kin.self _); have g3 := f3 (Kin.self _); have g4 := f4 (Kin.self _); have g5 := f5 (Kin.self _); have g6 := f6 (Kin.self _)
 simp only [Kin.self] at g0
 simp only [Kin.self] at g1
 simp only [Kin.self] at g2
 simp only [Kin.self] at g3
 simp only [Kin.self] at g4
 simp only [Kin.self] at g5
 simp only [Kin.self] at g6
 clear hx hcx hk; have fhZ' := hZ.fz7; have yhQ := hQ.lt; have yhZ := hZ.lt
 go_wp2
 clear q' z0 z1 z2 z3 z4 z5 z6
 refine st7 0 fun W9 tW9 => ?_
 replace HB := tW9.hc HB; replace hQ := tW9.fa hQ; replace hZ := tW9.all7 hZ; have q' := hQ.cs3
 obtain ⟨z0, z1, z2, z3, z4, z5, z6⟩ := hZ.cs7
 exact brt ⟨rfl, HB⟩ (by simp [results, Tryz.results64, go_sem, z0, z1, z2, z3, z4, z5, z6])
theorem lacksSecond_is (A : Option Addr) (c : Nat) (rs : List Rul) (hn : rs.length ≤ 1048576) (q : Que) (r : Rul) (hr : fnd rs q.rule = some r) (v : Bool) (hv : lackB r q = v) (w : World) (hR : Rds 7 Rul.cells w A rs) :
 Calls Tryz.prog 117 #[.slice A rs.length c, .agg #[.int .i64 q.rule, .int .i64 q.mover, .bool q.sec]] w fun e w' => e = .returned (.bool v) ∧ Below w.heap.size w w' := by
 subst hv
 obtain ⟨qr, qm, qs⟩ := q
 obtain ⟨id, nm, rk, se, de, am, nd, hs⟩ := r
 go_in
 go_wp2_with fail
 refine (ruleOf_is A c rs hn ⟨qr, qm, qs⟩ ⟨id, nm, rk, se, de, am, nd, hs⟩ hr _ (hR.below (bl1 _ _))).mono ?_
 rintro e w1 ⟨rfl, hb1⟩
 have hQ := (Blk.new w 46 #[.int .i64 qr, .int .i64 qm, .bool qs]).below hb1 (by simp); have q2 := (hQ.cell 2).trans (show _ = some (.bool qs) from rfl); clear hr
 have hfd : ∀ W : World, (Instr.field 48 (.agg #[.int .i64 id, .string nm, .int .i64 rk, .bool se, .bool de, .bool am, .int .i64 nd]) 3).run Tryz.prog W = .ok (.bool se) W := fun _ => by kernel_rfl
 cases se <;> cases qs
 all_goals
  go_wp2
  go_ret
  exact ⟨by simp [lackB], bth (bl1 _ _) hb1⟩
theorem l7Lacks_is (A : Option Addr) (c : Nat) (rs : List Rul) (hn : rs.length ≤ 1048576) (q : Que) (r : Rul) (hr : fnd rs q.rule = some r) (v : Bool) (hv : lackB r q = v) (w : World) (hR : Rds 7 Rul.cells w A rs) :
 Calls Tryz.prog 126 #[.slice A rs.length c, .agg #[.int .i64 q.rule, .int .i64 q.mover, .bool q.sec]] w fun e w' => e = .returned (.bool v) ∧ Below w.heap.size w w' := by
 subst hv
 obtain ⟨k, hi, hk⟩ := idxB_some hr
 have hlt : k < rs.length := (List.getElem?_eq_some_iff.1 hk).1; have HI := lh hi; clear hi hr
 obtain ⟨b, off, r', rfl, hbl, hx, hcx⟩ := hR.at_ (bl1 w (.cells #[.int .i64 q.rule, .int .i64 q.mover, .bool q.sec] 46)) hlt
 obtain rfl : r = r' := Option.some.inj (hk.symm.trans hx)
 obtain ⟨qr, qm, qs⟩ := q
 obtain ⟨id, nm, rk, se, de, am, nd, hs⟩ := r
 have g3 := hcx 3 _ rfl (Kin.self _)
 simp only [Kin.self] at g3
 clear hcx hx
 cases se <;> cases qs
 all_goals
  go_in
  go_wp2_with fail
  refine (l2Find_is _ c rs hn qr _ HI.out _ (hR.below (bl1 _ _))).mono ?_
  rintro e w1 ⟨rfl, rfl⟩
  go_wp2
  go_ret
  exact ⟨by simp [lackB], bl1 _ _⟩
theorem l7Rank_is (A : Option Addr) (c : Nat) (rs : List Rul) (hn : rs.length ≤ 1048576) (q : Que) (r : Rul) (hr : fnd rs q.rule = some r) (w : World) (hR : Rds 7 Rul.cells w A rs) :
 Calls Tryz.prog 161 #[.slice A rs.length c, .agg #[.int .i64 q.rule, .int .i64 q.mover, .bool q.sec]] w fun e w' => e = .returned (.int .i64 r.rank) ∧ Below w.heap.size w w' := by
 obtain ⟨k, hi, hk⟩ := idxB_some hr
 have hlt : k < rs.length := (List.getElem?_eq_some_iff.1 hk).1; have HI := lh hi; clear hi hr
 obtain ⟨b, off, r', rfl, hbl, hx, hcx⟩ := hR.at_ (bl1 w (.cells #[.int .i64 q.rule, .int .i64 q.mover, .bool q.sec] 46)) hlt
 obtain rfl : r = r' := Option.some.inj (hk.symm.trans hx)
 obtain ⟨qr, qm, qs⟩ := q
 obtain ⟨id, nm, rk, se, de, am, nd, hs⟩ := r
 have g2 := hcx 2 _ rfl (Kin.self _)
 simp only [Kin.self] at g2
 clear hcx hx
 go_in
 go_wp2_with fail
 refine (l2Find_is _ c rs hn qr _ HI.out _ (hR.below (bl1 _ _))).mono ?_
 rintro e w1 ⟨rfl, rfl⟩
 go_wp2
 go_ret
 exact ⟨rfl, bl1 _ _⟩
theorem l2Good_is (A : Option Addr) (c : Nat) (xs : List Rul) (hn : xs.length ≤ 1048576) (v : Bool) (hv : rulesB xs = v) (w : World) (hR : Rds 7 Rul.cells w A xs) :
 Calls Tryz.prog 71 #[.slice A xs.length c] w fun e w' => e = .returned (.bool v) ∧ Below w.heap.size w w' := by
 subst hv
 go_in
 go_wp2
 go_loopw [3, 4] (fun i _ wr => ∃ k : Nat, k ≤ xs.length ∧ k ≤ 9 ∧ i = .int .i64 k ∧ allTo (ruleStep xs) k = true ∧ Below w.heap.size w wr) (fun i _ _ => xs.length - (intOf i).toNat)
 case atStart => exact ⟨0, Nat.zero_le _, by omega, rfl, rfl, Below.refl _ _⟩
 case round =>
  obtain ⟨k, hk, hk9, rfl, hl, hb⟩ := hrel
  have HL := lh hl; clear hl
  by_cases hlt : k < xs.length
  ·by_cases h9 : k ≤ 8
   ·obtain ⟨b, off, x, hAe, hbl, hx, hcx⟩ := hR.at_ hb hlt
    have hRw := hR.below hb
    subst hAe
    obtain ⟨id, nm, rk, se, de, am, nd, hs⟩ := x
    cases k with
    | zero =>
     have f0 := hcx 0 _ rfl; have f1 := hcx 1 _ rfl; have f2 := hcx 2 _ rfl; have f3 := hcx 3 _ rfl; have f4 := hcx 4 _ rfl; have f5 := hcx 5 _ rfl; have f6 := hcx 6 _ rfl
     simp only [Nat.zero_mul, Nat.add_zero] at f0
     simp only [Nat.zero_mul] at f1
     simp only [Nat.zero_mul] at f2
     simp only [Nat.zero_mul] at f3
     simp only [Nat.zero_mul] at f4
     simp only [Nat.zero_mul] at f5
     simp only [Nat.zero_mul] at f6
     have f1' := f1; have g0 := f0 (Kin.self _); have g1 := f1 (Kin.self _); have g2 := f2 (Kin.self _); have g3 := f3 (Kin.self _); have g4 := f4 (Kin.self _); have g5 := f5 (Kin.self _); have g6 := f6 (Kin.self _)
     simp only [Kin.self] at g0
     simp only [Kin.self] at g1
     simp only [Kin.self] at g2
     simp only [Kin.self] at g3
     simp only [Kin.self] at g4
     simp only [Kin.self] at g5
     simp only [Kin.self] at g6
     have HX := lh hx; clear hx hcx
     cases hv : ruleB ⟨id, nm, rk, se, de, am, nd, hs⟩
     all_goals
      have HV := lh hv
      go_wp2
      refine wp_region_kin (by kernel_rfl) (by kernel_rfl) ?_
      repeat (go_big_quiet_step ((go_at_call 132; exact Kin.call _ (Nat.le_refl _) (l2Single_is ⟨id, nm, rk, se, de, am, nd, hs⟩ _ HV.out _))))
      refine wpQuiet_nil ?_
      intro K
      go_wp2
     ·go_ret
      exact ⟨ret_bool (by rw [rulesB, allTo_not hlt (by simp [ruleStep, HX.out, hv])]; rfl), bth hb K.below⟩
     ·go_loopw [4] (fun j wq => j = .int .i64 0 ∧ Below w.heap.size w wq) (fun _ _ => 0)
      case atStart => exact ⟨rfl, bth hb K.below⟩
      case round =>
       obtain ⟨rfl, hb2⟩ := hrel
       go_wp2
       go_roundw
       case rel => exact ⟨1, by omega, by omega, by go_num, allTo_go HL.out (by simp [ruleStep, HX.out, hv]), hb2⟩
       case measure => simp [intOf]; omega
    | succ j =>
     obtain ⟨b', off', y, e', _, hy, hcy⟩ := hR.at_ hb (k := j) (by omega)
     simp only [Option.some.injEq, Addr.mk.injEq, and_true] at e'
     obtain ⟨rfl, rfl⟩ := e'
     obtain ⟨yid, yn, yr, ys, yd, ya, ynd, yok⟩ := y
     have f0 := hcx 0 _ rfl; have f1 := hcx 1 _ rfl; have f2 := hcx 2 _ rfl; have f3 := hcx 3 _ rfl; have f4 := hcx 4 _ rfl; have f5 := hcx 5 _ rfl; have f6 := hcx 6 _ rfl
     simp only [Nat.add_zero] at f0
     have g0 := f0 (Kin.self _); have g1 := f1 (Kin.self _); have g2 := f2 (Kin.self _); have g3 := f3 (Kin.self _); have g4 := f4 (Kin.self _); have g5 := f5 (Kin.self _); have g6 := f6 (Kin.self _)
     simp only [Kin.self] at g0
     simp only [Kin.self] at g1
     simp only [Kin.self] at g2
     simp only [Kin.self] at g3
     simp only [Kin.self] at g4
     simp only [Kin.self] at g5
     simp only [Kin.self] at g6
     have y0 := hcy 0 _ rfl
     simp only [Nat.add_zero] at y0
     have HX := lh hx; clear hx hcx; have HY := lh hy; clear hy hcy
     cases hv : ruleB ⟨id, nm, rk, se, de, am, nd, hs⟩
     ·have HV := lh hv
      go_wp2
      refine wp_region_kin (by kernel_rfl) (by kernel_rfl) ?_
      repeat (go_big_quiet_step ((go_at_call 132; exact Kin.call _ (Nat.le_refl _) (l2Single_is ⟨id, nm, rk, se, de, am, nd, hs⟩ _ HV.out _))))
      refine wpQuiet_nil ?_
      intro K
      go_wp2
      go_ret
      exact ⟨ret_bool (by rw [rulesB, allTo_not hlt (by rw [ruleStep_succ HX.out HY.out, hv]; rfl)]; rfl), bth hb K.below⟩
     ·have HV := lh hv
      by_cases hid : yid < id
      ·have hle : decide (id ≤ yid) = false := decide_eq_false (by omega)
       go_wp2
       refine wp_region_kin (by kernel_rfl) (by kernel_rfl) ?_
       repeat (go_big_quiet_step ((go_at_call 132; exact Kin.call _ (Nat.le_refl _) (l2Single_is ⟨id, nm, rk, se, de, am, nd, hs⟩ _ HV.out _))))
       refine wpQuiet_nil ?_
       intro K
       go_wp2
       go_loopw [4] (fun i wq => ∃ m : Nat, m ≤ j + 1 ∧ i = .int .i64 m ∧ allTo (fun i => !atB (fun z : Rul => z.name.toList == nm.toList) xs i) m = true ∧ Below w.heap.size w wq) (fun i _ => j + 1 - (intOf i).toNat)
       case atStart => exact ⟨0, by omega, rfl, rfl, bth hb K.below⟩
       case round =>
        clear f0 f1 f2 f3 f4 f5 f6 g0 g1 g2 g3 g4 g5 g6 y0
        obtain ⟨m, hm, rfl, hml, hb2⟩ := hrel
        have HML := lh hml; clear hml
        by_cases hmk : m < j + 1
        ·obtain ⟨b3, off3, z, e3, _, hz, hcz⟩ := hR.at_ hb2 (k := m) (by omega)
         simp only [Option.some.injEq, Addr.mk.injEq, and_true] at e3
         obtain ⟨rfl, rfl⟩ := e3
         obtain ⟨b4, off4, x4, e4, _, hx4, hcx4⟩ := hR.at_ hb2 (k := j + 1) (by omega)
         simp only [Option.some.injEq, Addr.mk.injEq, and_true] at e4
         obtain ⟨rfl, rfl⟩ := e4
         obtain rfl : _ = x4 := Option.some.inj (HX.out.symm.trans hx4)
         have p1 := hcz 1 _ rfl; have q1 := hcx4 1 _ rfl; have HZ := lh hz; clear hz hcz hcx4 hx4
         cases hd : (z.name.toList == nm.toList)
         all_goals
          have HD := lh hd
          go_wp2
          refine wp_region_kin (by kernel_rfl) (by kernel_rfl) ?_
          repeat (go_big_quiet_step (fail))
          refine wpQuiet_nil ?_
          intro K2
          go_wp2
         ·go_roundw
          case rel => exact ⟨m + 1, by omega, by go_num, allTo_go HML.out (by simp [atB, HZ.out, HD.out]), bth hb2 K2.below⟩
          case measure => simp [intOf]; omega
         ·go_ret
          exact ⟨ret_bool (by rw [rulesB, allTo_not hlt (by rw [ruleStep_succ HX.out HY.out, anyTake_yes hmk HZ.out HD.out, hv]; simp)]; rfl), bth hb2 K2.below⟩
        ·obtain rfl : m = j + 1 := by omega
         go_wp2
         go_roundw
         case rel => exact ⟨j + 1 + 1, by omega, by omega, by go_num, allTo_go HL.out (by rw [ruleStep_succ HX.out HY.out, hv, anyTake_no HML.out, decide_eq_true (show (Rul.id ⟨yid, yn, yr, ys, yd, ya, ynd, yok⟩) < (Rul.id ⟨id, nm, rk, se, de, am, nd, hs⟩) from hid)]; rfl), hb2⟩
         case measure => simp [intOf]; omega
      ·have hle : decide (id ≤ yid) = true := decide_eq_true (by omega)
       go_wp2
       refine wp_region_kin (by kernel_rfl) (by kernel_rfl) ?_
       repeat (go_big_quiet_step ((go_at_call 132; exact Kin.call _ (Nat.le_refl _) (l2Single_is ⟨id, nm, rk, se, de, am, nd, hs⟩ _ HV.out _))))
       refine wpQuiet_nil ?_
       intro K
       go_wp2
       go_ret
       exact ⟨ret_bool (by rw [rulesB, allTo_not hlt (by rw [ruleStep_succ HX.out HY.out, hv, decide_eq_false (show ¬ (Rul.id ⟨yid, yn, yr, ys, yd, ya, ynd, yok⟩) < (Rul.id ⟨id, nm, rk, se, de, am, nd, hs⟩) from by show ¬ (yid < id); omega)]; rfl)]; rfl), bth hb K.below⟩
   ·have h8 : decide (xs.length ≤ 8) = false := decide_eq_false (by omega)
    go_wp2
    go_ret
    exact ⟨ret_bool (by rw [rulesB, h8, Bool.and_false]; exact decide_eq_false (by omega)), hb⟩
  ·exact zb133
end Go.Proofs.YtjimibkgocieoaaGreat
