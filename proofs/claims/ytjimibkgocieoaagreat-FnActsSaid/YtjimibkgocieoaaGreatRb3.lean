/- Texts of the proof: walks of the functions, and what they compute. -/
import Derived.Test.YtjimibkgocieoaaGreatRb2
import Derived.Test.YtjimibkgocieoaaGreatRb0
import Derived.Test.YtjimibkgocieoaaGreatProg
import Derived.Ground.Names2Prog
import Derived.Ground.SlgfProg
import Derived.Shelf.Slices.SearchI
import Derived.Shelf.Slices.Turned
import Derived.Shelf.SlicesE.DeleteFunc
import Derived.Shelf.SlicesE.IndexFunc
import Derived.Shelf.Small.Wraps
import Derived.Lib.SlBytesRow
import Derived.BigRegion
import Derived.ChangeAlike
import Derived.Deep.RegionWith
import Derived.RegionTactic
import Derived.Maps.AppendAt
import Derived.Deep.Cut
import Derived.Laws.CopyRow
import Derived.Test.YtjimibkgocieoaaGreatRb1
import Derived.Lib.OwnBridge
import Derived.Lib.SlicesCompact
set_option maxHeartbeats 16000000
set_option maxRecDepth 100000
namespace Go.G9
open Go.RowKit
section
variable {P : Program} {ops : Array Oper} {md : Region.Mode} {C : World → Prop} {α : Type} [Inhabited α]
def mkyB (md : Region.Mode) (ops : Array Oper) (par : Nat → List Nat) (r1 : List (List Nat × Nat)) (s1 : List Nat) (r2 : List (List Nat × List Nat × Nat × Bool)) (s2 p2 : List Nat) : Bool :=
 let o1 := mkOrd 0 1 r1 s1; let o2 := mxOrd r2 s2 p2; let ms := r1.map (·.2)
 Region.noSelect ops && wfB md ops && pairsB md ops (o1 ++ o2) && (o1 ++ o2).all (fun x => decide (x.1 < ops.size)) && (List.range ops.size).all (fun i => (o1 ++ o2).any fun x => x.1 == i) &&
  (o1 ++ o2).all (fun x => x.2 == 1 || x.2 == 3 || x.2 == 5 || stillAt ops x.1) && ms.all (fun e => (par e).all fun m => ms.contains m && edgeB md ops e m) && (o1 ++ o2).all (fun x => !(ms.contains x.1) || x.2 == 1) &&
  decide (o1.length + o2.length = ops.size)
theorem mxOrd_kind : ∀ (r : List (List Nat × List Nat × Nat × Bool)) (s' p' : List Nat), ∀ x ∈ mxOrd r s' p', x.2 = 2 ∨ x.2 = 3 ∨ x.2 = 4 ∨ x.2 = 5
 | [], s', p', x, hx => by
  simp [mxOrd] at hx
  rcases hx with ⟨_, _, rfl⟩ | ⟨_, _, rfl⟩ <;> simp
 | (s, p, e, d) :: r, s', p', x, hx => by
  simp only [mxOrd, List.mem_append, List.mem_cons, List.mem_map] at hx
  rcases hx with ⟨_, _, rfl⟩ | ⟨_, _, rfl⟩ | rfl | hx
  ·simp
  ·simp
  ·cases d <;> simp
  ·exact mxOrd_kind r s' p' x hx
theorem wp_region_mky {id : Nat} {Q : Exit → Act → World → Prop} {a : Act} {w : World} {l : List Oper} (S : MkSpec α) (C : World → Prop) (r1 : List (List Nat × Nat)) (s1 : List Nat) (r2 : List (List Nat × List Nat × Nat × Bool)) (s2 p2 : List Nat) (hm : P.follows .mixedOrders = true)
  (hB : mkyB .any l.toArray S.par r1 s1 r2 s2 p2 = true) (hC : C w.drew) (hst : ∀ W W', C W → Below W.heap.size W W' → C W')
  (h : ∀ σ : Nat → α, wpMk1 P l (fun w' => ∃ k : Hld C, w' = k.world) S σ (fun a' => ∀ V0 V W, Made S w.drew (r1.map (·.2)) σ V0 V W → C W → wpMx P l (fun w' => ∃ k : Hld C, w' = k.world) (fun a' w' => Q .normal a' w') r2 s2 p2 a' W) r1 s1 a) : (Code.region id l.toArray true).wp P Q a w := by
 simp only [mkyB, Bool.and_eq_true, List.all_eq_true, decide_eq_true_eq] at hB
 obtain ⟨⟨⟨⟨⟨⟨⟨⟨b1, b2⟩, b3⟩, b4⟩, b5⟩, b6⟩, b7⟩, b8⟩, b9⟩ := hB
 have hst' : ∀ W W', cls C W → Below W.heap.size W W' → cls C W' := fun W W' ⟨k, hk⟩ hb => ⟨⟨W', hst W W' (hk ▸ k.holds) hb⟩, rfl⟩
 have hk1 : ∀ x ∈ mkOrd 0 1 r1 s1, x.1 < l.length ∧ (x.2 = 1 ∨ stillAt l.toArray x.1 = true) := fun x hx => by
  exact zb89
 have hk2 : ∀ x ∈ mxOrd r2 s2 p2, x.1 < l.length ∧ (x.2 = 3 ∨ x.2 = 5 ∨ stillAt l.toArray x.1 = true) := fun x hx => by
  have h1 := b4 x (List.mem_append_right _ hx); have h2 := b6 x (List.mem_append_right _ hx)
  refine ⟨by simpa using h1, ?_⟩
  have h3 := mxOrd_kind r2 s2 p2 x hx
  have h4 : x.2 ≠ 1 := by omega
  simpa [h4, or_assoc] using h2
 have hms : ∀ m ∈ r1.map (·.2), ∀ k, (m, k) ∈ mkOrd 0 1 r1 s1 ++ mxOrd r2 s2 p2 → (m, k) ∈ mkOrd 0 1 r1 s1 ∧ k = 1 := by
  intro m hm k hk
  have h1 := b8 _ hk; have hc : (r1.map (·.2)).contains m = true := List.contains_iff_mem.2 hm
  simp only [hc, Bool.not_true, Bool.false_or, beq_iff_eq] at h1
  refine ⟨?_, h1⟩
  rcases List.mem_append.1 hk with h2 | h2
  ·exact h2
  ·exfalso
   have h3 := mxOrd_kind r2 s2 p2 _ h2
   simp only at h3; omega
 have hfit : Fit .any l.toArray (mkOrd 0 1 r1 s1 ++ mxOrd r2 s2 p2) (Array.replicate l.toArray.size false) := by
  exact zb26
 have H := wpAny_of_RW1 (P := P) (md := .any) (ops := l.toArray) (C := cls C) (Q := fun a' w' => Q .normal a' w') (S := S) (w0 := w.drew) (r2 := mxOrd r2 s2 p2) (ms := r1.map (·.2)) b1 hst'
  (fun e he m hm => by
   have h1 := b7 e he m hm
   exact ⟨List.contains_iff_mem.1 h1.1, h1.2⟩)
  (fun x hx => mxOrd_kind r2 s2 p2 x hx)
  _ (mkOrd 0 1 r1 s1) _ a w.drew (fun _ => default) (fun _ => w) (fun _ => w) rfl (fun x hx => (mkOrd_snd r1 s1 x hx).imp_right .inr) hfit hms ⟨⟨_, hC⟩, rfl⟩ (Below.refl _ _)
  (by
   have : ((r1.map (·.2)).filter fun m => decide ((m, 1) ∉ mkOrd 0 1 r1 s1)) = [] := by
    rw [List.filter_eq_nil_iff]
    intro m hm
    simp [mkOrd_mem r1 s1 m hm]
   rw [this]
   exact ⟨fun m h => (by cases h), fun m h => (by cases h), fun m h => (by cases h), fun m h => (by cases h), fun m h => (by cases h)⟩)
  (fun m hm hn => absurd (mkOrd_mem r1 s1 m hm) hn)
  (fun σ _ => RW1_of_mk (fun a' hF V0 V W hM ⟨k, hCW⟩ => RW2_of_mx r2 s2 p2 a' W hk2 (hF V0 V W hM (by rw [hCW]; exact k.holds))) r1 s1 a hk1 (h σ))
 exact zb101
end
end Go.G9
namespace Go.Proofs.YtjimibkgocieoaaGreat
open Go.RowKit Go.G9
def inB (n a b : Int) : Bool := decide (a ≤ n) && decide (n ≤ b)
theorem inB_iff {n a b : Int} : inB n a b = true ↔ a ≤ n ∧ n ≤ b := by simp [inB]
def lowB (l : List UInt8) : Bool := l.all fun c => decide (97 ≤ c.toNat) && decide (c.toNat ≤ 122)
def wordB (s : ByteArray) : Bool := lowB s.data.toList && inB s.size 1 10

theorem inside_is (n a b : Int) (v : Bool) (hv : inB n a b = v) (w : World) : Calls Tryz.prog 118 #[.int .i64 n, .int .i64 a, .int .i64 b] w fun e w' => e = .returned (.bool v) ∧ w' = w := by
 subst hv
 go_in
 go_wp2
 all_goals go_ret; exact ⟨by simp [inB, *] <;> omega, rfl⟩
theorem l1In_is (n a b : Int) (v : Bool) (hv : inB n a b = v) (w : World) : Calls Tryz.prog 136 #[.int .i64 n, .int .i64 a, .int .i64 b] w fun e w' => e = .returned (.bool v) ∧ w' = w := by
 subst hv
 go_in
 go_wp2
 all_goals go_ret; exact ⟨by simp [inB, *] <;> omega, rfl⟩

theorem lowB_take_succ (s : ByteArray) (k : Nat) (h : k < s.size) : lowB (s.data.toList.take (k+1)) = (lowB (s.data.toList.take k) && (decide (97 ≤ s[k].toNat) && decide (s[k].toNat ≤ 122))) := by
 unfold lowB
 rw [List.take_succ_eq_append_getElem (by simpa using h), List.all_append]; simp; rfl
theorem lowB_not (s : ByteArray) (k : Nat) (h : k < s.size) (h1 : (decide (97 ≤ s[k].toNat) && decide (s[k].toNat ≤ 122)) = false) : lowB s.data.toList = false := by
 have : lowB s.data.toList = (lowB (s.data.toList.take (k+1)) && lowB (s.data.toList.drop (k+1))) := by
  unfold lowB; rw [← List.all_append, List.take_append_drop]
 rw [this, lowB_take_succ s k h, h1]; simp
theorem zb46 {p : Prop} (h : p := by
 by_cases h1 : s[k].toNat < 97
 ·go_wp2
  go_ret
  exact ⟨by simp [wordB, lowB_not s k hlt (by simp; omega)], rfl⟩
 ·by_cases h2 : 122 < s[k].toNat
  ·go_wp2
   go_ret
   exact ⟨by simp [wordB, lowB_not s k hlt (by simp; omega)], rfl⟩
  ·go_wp2
   go_round
   case rel => exact ⟨k + 1, by omega, by go_num, by rw [lowB_take_succ s k hlt, HL.out]; simp; omega⟩
   case measure => simp [intOf]; omega) : p := h
theorem zb141 {p : Prop} (h : p := by
 go_ret
 have := HL.out
 rw [List.take_of_length_le (by simp)] at this
 exact ⟨by simp [wordB, this], rfl⟩) : p := h
theorem isWord_is (s : ByteArray) (hs : s.size ≤ maxLen) (v : Bool) (hv : wordB s = v) (w : World) : Calls Tryz.prog 186 #[.string s] w fun e w' => e = .returned (.bool v) ∧ w' = w := by
 subst hv
 unfold maxLen at hs
 go_in
 go_wp2
 go_loop [3] (fun i => ∃ k : Nat, k ≤ s.size ∧ i = .int .i64 k ∧ lowB (s.data.toList.take k) = true) (fun i => s.size - (intOf i).toNat)
 case atStart => exact ⟨0, Nat.zero_le _, rfl, rfl⟩
 case round =>
  obtain ⟨k, hk, rfl, hl⟩ := hrel
  have HL := lh hl; clear hl
  by_cases hlt : k < s.size
  ·exact zb46
  ·obtain rfl : k = s.size := by omega
   go_wp2_with (go_at_call 118; refine (inside_is _ _ _ _ rfl _).mono ?_; rintro e w' ⟨rfl, rfl⟩)
   exact zb141
theorem l2Word_is (s : ByteArray) (hs : s.size ≤ maxLen) (v : Bool) (hv : wordB s = v) (w : World) : Calls Tryz.prog 187 #[.string s] w fun e w' => e = .returned (.bool v) ∧ w' = w := by
 subst hv
 unfold maxLen at hs
 go_in
 go_wp2
 go_loop [3] (fun i => ∃ k : Nat, k ≤ s.size ∧ i = .int .i64 k ∧ lowB (s.data.toList.take k) = true) (fun i => s.size - (intOf i).toNat)
 case atStart => exact ⟨0, Nat.zero_le _, rfl, rfl⟩
 case round =>
  obtain ⟨k, hk, rfl, hl⟩ := hrel
  have HL := lh hl; clear hl
  by_cases hlt : k < s.size
  ·exact zb46
  ·obtain rfl : k = s.size := by omega
   go_wp2_with (go_at_call 136; refine (l1In_is _ _ _ _ rfl _).mono ?_; rintro e w' ⟨rfl, rfl⟩)
   exact zb141
end Go.Proofs.YtjimibkgocieoaaGreat
/-
  Contracts of library functions at this seat, printed by the shelf tool in plain words.
-/
namespace Go.Proofs
open Go.Shelf
open Go.RowKit in
open Go.RowKit Go.Lib in
open Go.RowKit Go.Lib in
def Tryz.laysSlH10_f207_ren : Go.Shelf.Ren := ⟨fun | 10 => 207 | 6 => 212 | n => n, fun | 22 => 26 | 23 => 3 | 25 => 105 | 3 => 3 | 4 => 4 | 0 => 0 | n => n, fun | n => n⟩
theorem Tryz.laysSlH10_f207 : Go.Proofs.SlLaysH.n10 Tryz.prog Tryz.laysSlH10_f207_ren := {
  mixed := by kernel_rfl
  f6 := ⟨Tryz.f212.name, by decide, Tryz.func212.trans (congrArg some (by kernel_rfl))⟩
  f10 := ⟨Tryz.f207.name, by decide, Tryz.func207.trans (congrArg some (by kernel_rfl))⟩
  t0 := Tryz.underlying0
  a0 := Tryz.isAgg0
  z0 := Tryz.sizeOf0
  v0 := Tryz.zeroValue0
  t3 := Tryz.underlying3
  a3 := Tryz.isAgg3
  z3 := Tryz.sizeOf3
  v3 := Tryz.zeroValue3
  t4 := Tryz.underlying4
  a4 := Tryz.isAgg4
  z4 := Tryz.sizeOf4
  v4 := Tryz.zeroValue4
  t22 := Tryz.underlying26
  a22 := Tryz.isAgg26
  z22 := Tryz.sizeOf26
  v22 := Tryz.zeroValue26
  a23 := Tryz.isAgg3
  z23 := Tryz.sizeOf3
  t25 := Tryz.underlying105
  a25 := Tryz.isAgg105
  z25 := Tryz.sizeOf105
  v25 := Tryz.zeroValue105 }
open Go.RowKit Go.Lib Go.Sort in
theorem Tryz.slices_DeleteFunc {α : Type} [Inhabited α] (enc : α → Value) (hO : OneCell enc) (p : α → Bool) (g : Nat) (lb : Array Value) (eg : ∀ args w, (callFunc g args).run Tryz.prog w = .ok (.enter g args) w) (zr : α) (v23 : ∀ w, (zeroValue 3).run Tryz.prog w = .ok (enc zr) w) (blk off cap : Nat) (d : Array α) (w : World) (hp : PredAt Tryz.prog g lb enc p w) (hpo : PredOver Tryz.prog g lb enc p blk off d.size w) (hH : Holds enc w blk off d) (hsz : d.size ≤ 9223372036854775807) (hcap : d.size ≤ cap) :
    Calls Tryz.prog 207 #[.slice (some ⟨blk, off, none⟩) d.size cap, .func (.func g) #[] lb] w fun e w' => e = .returned (.slice (some ⟨blk, off, none⟩) (d.toList.filter fun x => !p x).length cap) ∧ ∃ q, w' = putRow enc (Sort.ahead w q) blk off ((d.toList.filter fun x => !p x) ++ List.replicate (d.size - (d.toList.filter fun x => !p x).length) zr).toArray := AnyE.slices_DeleteFunc Tryz.laysSlH10_f207 enc hO p g lb eg zr v23 blk off cap d w hp hpo hH hsz hcap
end Go.Proofs
namespace Go.G9
open Go.RowKit
def atB {T : Type} (p : T → Bool) (xs : List T) (i : Nat) : Bool := match xs[i]? with | some x => p x | none => false
def idxB {T : Type} (p : T → Bool) (xs : List T) : Int := match xs.findIdx? p with | some i => i | none => -1
theorem idxB_none {T : Type} {p : T → Bool} {xs : List T} (h : allTo (fun i => !atB p xs i) xs.length = true) : idxB p xs = -1 := by
 have : xs.findIdx? p = none := by
  rw [List.findIdx?_eq_none_iff]
  intro x hx
  obtain ⟨i, hi⟩ := List.getElem?_of_mem hx
  have := allTo_iff.1 h i (List.getElem?_eq_some_iff.1 hi).1
  simpa [atB, hi] using this
 simp [idxB, this]
theorem idxB_found {T : Type} {p : T → Bool} {xs : List T} {k : Nat} (hk : k < xs.length) (h : allTo (fun i => !atB p xs i) k = true) (hp : atB p xs k = true) : idxB p xs = k := by
 have : xs.findIdx? p = some k := by
  rw [List.findIdx?_eq_some_iff_getElem]
  refine ⟨hk, ?_, fun j hj => ?_⟩
  ·simpa [atB, List.getElem?_eq_getElem hk] using hp
  ·have := allTo_iff.1 h j hj
   simpa [atB, List.getElem?_eq_getElem (show j < xs.length by omega)] using this
 simp [idxB, this]
theorem idxB_ge {T : Type} (p : T → Bool) (xs : List T) : (decide (0 ≤ idxB p xs)) = xs.any p := by
 unfold idxB
 cases h : xs.findIdx? p with
 | none => simp at h; simpa using fun x hx => by simpa using h x hx
 | some i =>
  rw [List.findIdx?_eq_some_iff_getElem] at h
  obtain ⟨hi, hp, _⟩ := h
  have : xs.any p = true := List.any_eq_true.2 ⟨_, List.getElem_mem hi, hp⟩
  rw [this]; simp
theorem idxB_lt {T : Type} (p : T → Bool) (xs : List T) : -1 ≤ idxB p xs ∧ idxB p xs < xs.length := by
 unfold idxB
 cases h : xs.findIdx? p with
 | none => simp; omega
 | some i =>
  rw [List.findIdx?_eq_some_iff_getElem] at h
  obtain ⟨hi, _⟩ := h
  simp; omega
theorem run_enter {P : Program} {f : FuncId} {fn : Func} (hf : P.funcs[f]? = some fn) (hname : (fn.name == "runtime.NumGoroutine") = false) (hb : fn.body.isNone = false) (args : Array Value) (W : World) :
  (callFunc f args).run P W = .ok (.enter f args) W := by
 have h1 : fn.name ≠ "runtime.NumGoroutine" := by simpa using hname
 have h2 : fn.body ≠ none := by intro h; rw [h] at hb; simp at hb
 simp [callFunc, hf, h1, h2]
def intC (x : Int) : List Value := [.int .i64 x]
structure Str where
 s : ByteArray
 ok : s.size ≤ maxLen
def Str.cells (x : Str) : List Value := [.string x.s]
end Go.G9
namespace Go.Proofs.YtjimibkgocieoaaGreat
open Go.RowKit Go.G9
theorem flat_set {T : Type} {f : T → List Value} {sz : Nat} (hf : ∀ y, (f y).length = sz) : ∀ (xs : List T) (i : Nat) (x y : T) (j : Nat) (u : Value), xs[i]? = some x → f y = (f x).set j u → j < sz → (xs.flatMap f).set (i * sz + j) u = (xs.set i y).flatMap f
 | [], i, x, y, j, u, h, _, _ => by simp at h
 | a :: xs, 0, x, y, j, u, h, hy, hj => by
  simp at h; subst h
  simp only [List.flatMap_cons, List.set_cons_zero, Nat.zero_mul, Nat.zero_add, hy]
  rw [List.set_append_left _ _ (by rw [hf]; exact hj)]
 | a :: xs, i + 1, x, y, j, u, h, hy, hj => by
  have ih := flat_set hf xs i x y j u (by simpa using h) hy hj
  simp only [List.flatMap_cons, List.set_cons_succ]
  rw [List.set_append_right _ _ (by rw [hf, Nat.succ_mul]; omega), hf, show (i + 1) * sz + j - sz = i * sz + j by rw [Nat.succ_mul]; omega, ih]
theorem OwnV.setF {T : Type} {f : T → List Value} {B sz : Nat} {e : TypeId} {w : World} {v : Value} {xs : List T} {g : Nat} (hO : OwnV B e sz f w v xs) (hg : v.ownBlock = some g) (hf : ∀ y, (f y).length = sz) {i j : Nat} {x y : T} {u : Value} (hx : xs[i]? = some x) (hy : f y = (f x).set j u) (hj : j < sz) :
  OwnV B e sz f (w.setCell ⟨g, i * sz + j, none⟩ u) v (xs.set i y) := by
 have h := ownsRow_set (j := i * sz + j) (u := u) hO hg
 rw [flat_set hf xs i x y j u hx hy hj] at h
 unfold OwnV
 rw [List.length_set]
 exact h
open Go.RowKit Go.G9
def hasB (xs : List Int) (n : Int) : Bool := xs.any (fun x => x == n)
theorem hasB_yes {xs : List Int} {n x : Int} {k : Nat} (hx : xs[k]? = some x) (h : x = n) : hasB xs n = true := by
 subst h; exact List.any_eq_true.2 ⟨x, List.mem_of_getElem? hx, by simp⟩
theorem hasB_no {xs : List Int} {n : Int} (h : allTo (fun i => !atB (fun x => x == n) xs i) xs.length = true) : hasB xs n = false := by
 have := idxB_ge (fun x => x == n) xs
 rw [idxB_none h] at this
 exact this.symm
theorem zb114 {p : Prop} (h : p := by
 go_wp2
 go_roundw
 case rel => exact ⟨k + 1, by omega, by go_num, allTo_go HL.out (by simp [atB, HX.out, he]), hb⟩
 case measure => simp [intOf]; omega) : p := h
theorem l1Has_is (A : Option Addr) (c : Nat) (xs : List Int) (n : Int) (hn : xs.length ≤ 1048576) (v : Bool) (hv : hasB xs n = v) (w : World) (hR : Rds 1 intC w A xs) :
 Calls Tryz.prog 174 #[.slice A xs.length c, .int .i64 n] w fun e w' => e = .returned (.bool v) ∧ Below w.heap.size w w' := by
 subst hv
 go_in
 go_wp2
 go_loopw [5] (fun i wr => ∃ k : Nat, k ≤ xs.length ∧ i = .int .i64 k ∧ allTo (fun i => !atB (fun x => x == n) xs i) k = true ∧ Below w.heap.size w wr) (fun i _ => xs.length - (intOf i).toNat)
 case atStart => exact ⟨0, Nat.zero_le _, rfl, rfl, Below.refl _ _⟩
 case round =>
  obtain ⟨k, hk, rfl, hl, hb⟩ := hrel
  have HL := lh hl; clear hl
  by_cases hlt : k < xs.length
  ·obtain ⟨b, off, x, rfl, hbl, hx, hcx⟩ := hR.at_ hb hlt
   have f0 := hcx 0 _ rfl
   simp only [Nat.mul_one, Nat.add_zero] at f0
   have g0 := f0 (Kin.self _)
   simp only [Kin.self] at g0
   have HX := lh hx; clear hx hcx
   by_cases he : x = n
   ·have he' : (x == n) = true := beq_iff_eq.2 he
    have HE := lh he; clear he
    go_wp2
    go_ret
    exact ⟨ret_bool (hasB_yes HX.out HE.out).symm, hb⟩
   ·have he' : (x == n) = false := beq_eq_false_iff_ne.2 he
    exact zb114
  ·obtain rfl : k = xs.length := by omega
   go_wp2
   go_ret
   exact ⟨ret_bool (hasB_no HL.out).symm, hb⟩
theorem zb146 {p : Prop} (h : p := by
 obtain rfl : k = xs.length := by omega
 go_wp2
 go_ret
 exact ⟨ret_int (idxB_none HL.out).symm, hb⟩) : p := h
theorem index_int (A : Option Addr) (c : Nat) (xs : List Int) (n : Int) (hn : xs.length ≤ 1048576) (v : Int) (hv : idxB (fun x => x == n) xs = v) (w : World) (hR : Rds 1 intC w A xs) :
 Calls Tryz.prog 180 #[.slice A xs.length c, .int .i64 n] w fun e w' => e = .returned (.int .i64 v) ∧ Below w.heap.size w w' := by
 subst hv
 go_in
 go_wp2
 go_loopw [8] (fun i wr => ∃ k : Nat, k ≤ xs.length ∧ i = .int .i64 k ∧ allTo (fun i => !atB (fun x => x == n) xs i) k = true ∧ Below w.heap.size w wr) (fun i _ => xs.length - (intOf i).toNat)
 case atStart => exact ⟨0, Nat.zero_le _, rfl, rfl, Below.refl _ _⟩
 case round =>
  obtain ⟨k, hk, rfl, hl, hb⟩ := hrel
  have HL := lh hl; clear hl
  by_cases hlt : k < xs.length
  ·obtain ⟨b, off, x, rfl, hbl, hx, hcx⟩ := hR.at_ hb hlt
   have f0 := hcx 0 _ rfl
   simp only [Nat.mul_one, Nat.add_zero] at f0
   have g0 := f0 (Kin.self _)
   simp only [Kin.self] at g0
   have HX := lh hx; clear hx hcx
   by_cases he : x = n
   ·have he' : (n == x) = true := beq_iff_eq.2 he.symm
    have HE := lh he; clear he
    go_wp2
    go_ret
    exact ⟨ret_int (idxB_found hlt HL.out (by simp [atB, HX.out, HE.out])).symm, hb⟩
   ·have he' : (n == x) = false := beq_eq_false_iff_ne.2 (Ne.symm he)
    exact zb114
  ·exact zb146
theorem contains_int (A : Option Addr) (c : Nat) (xs : List Int) (n : Int) (hn : xs.length ≤ 1048576) (v : Bool) (hv : hasB xs n = v) (w : World) (hR : Rds 1 intC w A xs) :
 Calls Tryz.prog 119 #[.slice A xs.length c, .int .i64 n] w fun e w' => e = .returned (.bool v) ∧ Below w.heap.size w w' := by
 subst hv
 have hg := idxB_ge (fun x => x == n) xs; have HG := lh hg; clear hg
 go_in
 go_wp2_with fail
 refine (index_int A c xs n hn _ rfl _ hR).mono ?_
 rintro e w' ⟨rfl, hb⟩
 go_wp2
 go_ret
 exact ⟨ret_bool HG.out, hb⟩
open Go.RowKit Go.G9
theorem info_int : (Tryz.prog.info? 3).map (fun i => (i.zero, i.size, i.bytes)) = some (some (.int .i64 0), 1, 8) := by kernel_rfl
theorem intC_len (y : Int) : (intC y).length = 1 := rfl
theorem intC_one (y : Int) (u : Value) (h : u ∈ intC y) : u.oneCell' = true := by simp [intC] at h; subst h; rfl
theorem zb38 {p : Prop} (h : p := by
 go_in
 go_wp2_with ((at_builtin; refine wpList_app rfl _ _ 26 rfl w.heap.size 3 i0 _ 1 8 Tryz.underlying26 hi hz0 hz1 hz2 rfl (by decide) intC intC_len intC_one _ ([] : List Int) rfl (OwnV.made w (Nat.le_refl _) _) A c xs rfl (hR.alloc _) hA (by unfold maxLen; simp; omega) (by simp; omega) (by simp) ?_; intro v' w1 hO hg))
 go_ret
 obtain ⟨A', c', rfl, _, _⟩ := hO.form intC_len
 exact ⟨A', c', rfl, hO, (bl1 _ _).trans (grown_below hg (by simp) (fun k hk => Nat.le_of_eq (Option.some.inj hk)))⟩) : p := h
theorem l1Own_is (A : Option Addr) (c : Nat) (xs : List Int) (hn : xs.length ≤ 1048576) (hA : A = none → xs = [] ∧ c = 0) (w : World) (hR : Rds 1 intC w A xs) :
 Calls Tryz.prog 160 #[.slice A xs.length c] w fun e w' => ∃ A' c', e = .returned (.slice A' xs.length c') ∧ OwnV w.heap.size 3 1 intC w' (.slice A' xs.length c') xs ∧ Below w.heap.size w w' := by
 obtain ⟨i0, hi, hz0, hz1, hz2⟩ := info_parts info_int
 exact zb38
open Go.RowKit Go.G9
structure Ntc where
 id : Int
 topic : ByteArray
 given : Int
 days : Int
 ok : topic.size ≤ maxLen
def Ntc.cells (n : Ntc) : List Value := [.int .i64 n.id, .string n.topic, .int .i64 n.given, .int .i64 n.days]

end Go.Proofs.YtjimibkgocieoaaGreat
namespace Go.G9
open Go.RowKit
def mks (m s : Int) (n : Nat) : List Int := (List.range n).map fun (i : Nat) => m + s * (i : Int)
section
variable {T U : Type} {B : Nat} {e : TypeId} {sz : Nat} {f : T → List Value} {h : U → List Value} {w w' : World} {v : Value} {xs : List T}
theorem OwnV.block (hO : OwnV B e sz f w v xs) (hn : 0 < xs.length) : ∃ g cap cur, v = .slice (some ⟨g, 0, none⟩) xs.length cap ∧ B ≤ g ∧ Blk w g e cur ∧ xs.length ≤ cap ∧ cap ≤ maxLen ∧ cur.size = cap * sz := by
 rcases hO.2 with ⟨_, h0⟩ | ⟨g, cap, cur, hv, hB, hh, hnc, hcm, hcs, _⟩
 ·omega
 ·exact ⟨g, cap, cur, hv, hB, hh, hnc, hcm, hcs⟩
theorem OwnV.empty {A : Option Addr} {n c : Nat} {m s : Int} (hO : OwnV B e sz f w (.slice A n c) ([] : List T)) {p : Int → List Value} : OwnV B e sz p w (.slice A 0 c) (mks m s 0) := by
 obtain ⟨hl, hO⟩ := hO
 refine ⟨by simp [mks], ?_⟩
 rcases hO with ⟨hv, h0⟩ | ⟨g, cap, cur, hv, hB, hh, hnc, hcm, hcs, htake⟩
 ·injection hv with h1 h2 h3
  subst h1 h2 h3
  exact .inl ⟨rfl, by simp [mks]⟩
 ·injection hv with h1 h2 h3
  subst h1 h3
  simp at h2
  exact .inr ⟨g, c, cur, by simp [mks], hB, hh, by simp [mks], hcm, hcs, by simp [mks]⟩
theorem OwnV.ofBlk {g cap : Nat} {cs : Array Value} (hb : Blk w g e cs) (hB : B ≤ g) (hc : xs.length ≤ cap) (hm : cap ≤ maxLen) (hsz : cs.size = cap * sz) (hF : ∀ i x, xs[i]? = some x → ∀ j u, (f x)[j]? = some u → cs[i * sz + j]? = some u)
  (hf : ∀ y, (f y).length = sz := by intro y; rfl) : OwnV B e sz f w (.slice (some ⟨g, 0, none⟩) xs.length cap) xs := by
 refine ⟨flat_len hf xs, .inr ⟨g, cap, cs, rfl, hB, hb, hc, hm, hsz, ?_⟩⟩
 have hle : xs.length * sz ≤ cap * sz := Nat.mul_le_mul_right sz hc
 apply List.ext_getElem?
 intro k
 rw [List.getElem?_take]
 by_cases hk : k < (xs.flatMap f).length
 ·obtain ⟨i, j, x, hx, hj, rfl⟩ := flat_inv hf xs k _ (List.getElem?_eq_getElem hk)
  rw [flat_len hf] at hk
  rw [if_pos hk, List.getElem?_eq_getElem (l := xs.flatMap f) (by rw [flat_len hf]; exact hk), ← hF i x hx j _ hj]; simp
 ·rw [flat_len hf] at hk
  rw [if_neg hk, List.getElem?_eq_none (by rw [flat_len hf]; omega)]
end
end Go.G9
namespace Go.Proofs.YtjimibkgocieoaaGreat
open Go.RowKit Go.G9
end Go.Proofs.YtjimibkgocieoaaGreat
namespace Go.G9
open Go.RowKit
def scn (p : Int → Bool) (S : List Int) : Nat → Nat
 | 0 => 0
 | j + 1 => match S[j]? with | some z => if p z then scn p S j else j + 1 | none => j + 1
def insP (p : Int → Bool) (S : List Int) (z : Int) : List Int := S.take (scn p S S.length) ++ z :: S.drop (scn p S S.length)
def sto (c : Int → Int → Int) (xs : List Int) : Nat → List Int
 | 0 => []
 | i + 1 => match xs[i]? with | some x => insP (fun z => decide (c x z < 0)) (sto c xs i) x | none => sto c xs i
theorem scn_le (p : Int → Bool) (S : List Int) : ∀ j, scn p S j ≤ j
 | 0 => Nat.le_refl _
 | j + 1 => by
  have := scn_le p S j
  unfold scn
  split
  ·split <;> omega
  ·omega
theorem scn_yes {p : Int → Bool} {S : List Int} {j : Nat} {z : Int} (hz : S[j]? = some z) (hp : p z = true) : scn p S (j + 1) = scn p S j := by
 rw [scn, hz]; simp [hp]
theorem scn_no {p : Int → Bool} {S : List Int} {j : Nat} {z : Int} (hz : S[j]? = some z) (hp : p z = false) : scn p S (j + 1) = j + 1 := by
 rw [scn, hz]; simp [hp]
theorem insP_len (p : Int → Bool) (S : List Int) (z : Int) : (insP p S z).length = S.length + 1 := by
 have := scn_le p S S.length
 simp [insP]; omega
section
variable {c : Int → Int → Int} {xs : List Int}
theorem sto_at {k : Nat} {x : Int} (hx : xs[k]? = some x) : sto c xs (k + 1) = insP (fun z => decide (c x z < 0)) (sto c xs k) x := by rw [sto, hx]
theorem sto_len : ∀ k, k ≤ xs.length → (sto c xs k).length = k
 | 0, _ => rfl
 | k + 1, h => by
  have ih := sto_len k (by omega)
  rw [sto_at (List.getElem?_eq_getElem (by omega : k < xs.length)), insP_len, ih]
theorem sto_mem : ∀ k z, z ∈ sto c xs k → z ∈ xs
 | 0, z, hz => by simp [sto] at hz
 | k + 1, z, hz => by
  cases hx : xs[k]? with
  | none => rw [sto, hx] at hz; exact sto_mem k z hz
  | some x =>
   rw [sto_at hx] at hz
   simp only [insP, List.mem_append, List.mem_cons] at hz
   rcases hz with hz | rfl | hz
   ·exact sto_mem k z (List.mem_of_mem_take hz)
   ·exact List.mem_of_getElem? hx
   ·exact sto_mem k z (List.mem_of_mem_drop hz)
def rwE (c : Int → Int → Int) (xs : List Int) (k : Nat) (x : Int) (j : Nat) : List Int := (sto c xs k).take j ++ x :: ((sto c xs k).drop j ++ xs.drop (k + 1))
def rwD (c : Int → Int → Int) (xs : List Int) (k : Nat) : List Int := sto c xs k ++ xs.drop k
theorem rwD_E {k : Nat} {x : Int} (hx : xs[k]? = some x) : rwD c xs k = rwE c xs k x k := by
 obtain ⟨h, he⟩ := List.getElem?_eq_some_iff.1 hx
 have hl := sto_len (c := c) (xs := xs) k (by omega)
 unfold rwD rwE
 rw [List.drop_eq_getElem_cons h, he, List.take_of_length_le (by omega), List.drop_of_length_le (l := sto c xs k) (by omega), List.nil_append]
theorem rwE_at {k j : Nat} {x : Int} (h : k < xs.length) (hj : j ≤ k) : (rwE c xs k x j)[j]? = some x := by
 have hl := sto_len (c := c) (xs := xs) k (by omega)
 unfold rwE
 rw [List.getElem?_append_right (by simp; omega)]
 simp [hl, Nat.min_eq_left hj]
theorem rwE_pre {k j : Nat} {x z : Int} (h : k < xs.length) (hj : j < k) (hz : (sto c xs k)[j]? = some z) : (rwE c xs k x (j + 1))[j]? = some z := by
 have hl := sto_len (c := c) (xs := xs) k (by omega)
 unfold rwE
 rw [List.getElem?_append_left (by simp; omega), List.getElem?_take, if_pos (by omega)]
 exact hz
theorem rwE_split {k j : Nat} {x z : Int} (h : k < xs.length) (hj : j < k) (hz : (sto c xs k)[j]? = some z) :
  rwE c xs k x (j + 1) = (sto c xs k).take j ++ (z :: x :: ((sto c xs k).drop (j + 1) ++ xs.drop (k + 1))) ∧ rwE c xs k x j = (sto c xs k).take j ++ (x :: z :: ((sto c xs k).drop (j + 1) ++ xs.drop (k + 1))) := by
 have hl := sto_len (c := c) (xs := xs) k (by omega)
 have hjl : j < (sto c xs k).length := by omega
 have hz' : (sto c xs k)[j] = z := by rw [List.getElem?_eq_getElem hjl] at hz; exact Option.some.inj hz
 unfold rwE
 refine ⟨?_, ?_⟩
 ·rw [List.take_succ_eq_append_getElem hjl, hz']; simp
 ·rw [List.drop_eq_getElem_cons hjl, hz']; simp
theorem rwE_swap {k j : Nat} {x z : Int} (h : k < xs.length) (hj : j < k) (hz : (sto c xs k)[j]? = some z) :
  ((rwE c xs k x (j + 1)).set (j + 1) z).set j x = rwE c xs k x j := by
 obtain ⟨e1, e2⟩ := rwE_split (x := x) h hj hz
 have hl := sto_len (c := c) (xs := xs) k (by omega)
 have htl : ((sto c xs k).take j).length = j := by rw [List.length_take]; omega
 rw [e1, e2]
 rw [List.set_append_right _ _ (by omega), htl, show j + 1 - j = 1 by omega, List.set_cons_succ, List.set_cons_zero, List.set_append_right _ _ (by omega), htl, Nat.sub_self, List.set_cons_zero]
theorem rwE_end {k j : Nat} {x : Int} (hx : xs[k]? = some x) (hs : scn (fun z => decide (c x z < 0)) (sto c xs k) k = j) : rwE c xs k x j = rwD c xs (k + 1) := by
 have h := (List.getElem?_eq_some_iff.1 hx).1; have hl := sto_len (c := c) (xs := xs) k (by omega)
 unfold rwE rwD
 rw [sto_at hx]
 simp only [insP, hl, hs]
 simp
theorem rwE_len {k j : Nat} {x : Int} (h : k < xs.length) (hj : j ≤ k) : (rwE c xs k x j).length = xs.length := by
 have hl := sto_len (c := c) (xs := xs) k (by omega)
 simp [rwE, hl]; omega
theorem rwD_zero : rwD c xs 0 = xs := by simp [rwD, sto]
theorem rwD_one : rwD c xs 1 = xs := by
 cases xs with
 | nil => rfl
 | cons x r =>
  have hx : (x :: r)[0]? = some x := rfl
  conv => rhs; rw [← rwD_zero (c := c) (xs := x :: r)]
  rw [rwD_E hx, rwE_end (j := 0) hx rfl]
theorem rwD_end {k : Nat} (h1 : k ≤ xs.length ∨ k = 1) (h2 : ¬ k < xs.length) : rwD c xs k = sto c xs xs.length := by
 rcases h1 with h1 | h1
 ·obtain rfl : k = xs.length := by omega
  rw [rwD, List.drop_length, List.append_nil]
 ·subst h1
  by_cases h : xs.length = 1
  ·rw [rwD, ← h, List.drop_length, List.append_nil]
  ·have : xs = [] := List.length_eq_zero_iff.1 (by omega)
   subst this; rfl
end
end Go.G9
namespace Go.Proofs.YtjimibkgocieoaaGreat
open Go.RowKit Go.G9
theorem own_cellJ {B n c : Nat} {e : TypeId} {w : World} {g : Nat} {D : List Int} (hO : OwnV B e 1 intC w (.slice (some ⟨g, 0, none⟩) n c) D) {j : Nat} {z : Int} (hz : D[j]? = some z) : w.cell? ⟨g, j, none⟩ = some (.int .i64 z) ∧ w.frozen? ⟨g, j, none⟩ = false := by
 have hj : j < D.length := (List.getElem?_eq_some_iff.1 hz).1
 have hl : (D.flatMap intC).length = D.length := by rw [flat_len intC_len, Nat.mul_one]
 obtain ⟨h1, h2⟩ := ownsRow_cellAt (j := j) hO rfl (by rw [hl]; exact hj)
 refine ⟨h1.trans ?_, h2⟩
 have h3 := flat_get intC_len D j z hz 0 (.int .i64 z) rfl
 rw [Nat.mul_one, Nat.add_zero, List.getElem?_eq_getElem (by rw [hl]; exact hj)] at h3
 exact h3
theorem own_setJ {B n c : Nat} {e : TypeId} {w : World} {g : Nat} {D : List Int} (hO : OwnV B e 1 intC w (.slice (some ⟨g, 0, none⟩) n c) D) {j : Nat} (hj : j < D.length) (y : Int) : OwnV B e 1 intC (w.setCell ⟨g, j, none⟩ (.int .i64 y)) (.slice (some ⟨g, 0, none⟩) n c) (D.set j y) := by
 have h := OwnV.setF (u := .int .i64 y) (i := j) (j := 0) (x := D[j]) (y := y) hO rfl intC_len (List.getElem?_eq_getElem hj) (by simp [intC]) (by decide)
 simpa using h
theorem insSortC_is (c : Int → Int → Int) (xs : List Int) (hn : xs.length ≤ 20) (B g cap : Nat) (b0 : Nat) (w : World) (hBg : B ≤ g) (hBw : B ≤ w.heap.size)
  (hO : OwnV B 3 1 intC w (.slice (some ⟨g, 0, none⟩) xs.length cap) xs) (hf : ∀ x z, x ∈ xs → z ∈ xs → ∀ W, w.grownBy W (some g) → Calls Tryz.prog 205 #[.int .i64 x, .int .i64 z, .pointer (some ⟨b0, 0, none⟩)] W fun e w' => e = .returned (.int .i64 (c x z)) ∧ Below W.heap.size W w') :
 Calls Tryz.prog 215 #[.slice (some ⟨g, 0, none⟩) xs.length cap, .int .i64 0, .int .i64 xs.length, .func (.func 205) #[] #[.pointer (some ⟨b0, 0, none⟩)]] w fun e w' =>
  e = .returned (.tuple #[]) ∧ OwnV B 3 1 intC w' (.slice (some ⟨g, 0, none⟩) xs.length cap) (sto c xs xs.length) ∧ w.grownBy w' (some g) := by
 have HF := lh hf; clear hf
 go_in
 go_wp2
 go_loopw [8, 9] (fun i _ wr => ∃ k : Nat, 1 ≤ k ∧ (k ≤ xs.length ∨ k = 1) ∧ i = .int .i64 k ∧ OwnV B 3 1 intC wr (.slice (some ⟨g, 0, none⟩) xs.length cap) (rwD c xs k) ∧ w.grownBy wr (some g)) (fun i _ _ => xs.length - (intOf i).toNat)
 case atStart => exact ⟨1, Nat.le_refl _, .inr rfl, rfl, by rw [rwD_one]; exact hO, grown_refl _ _⟩
 case round =>
  clear hO
  obtain ⟨k, hk1, hk, rfl, hO1, hg1⟩ := hrel
  by_cases hlt : k < xs.length
  ·obtain ⟨x, hx⟩ : ∃ x, xs[k]? = some x := ⟨_, List.getElem?_eq_getElem hlt⟩
   rw [rwD_E hx] at hO1
   have HX := lh hx; clear hx; have HO1 := lh hO1; clear hO1
   go_wp2
   go_loopw [9] (fun j ws => ∃ q : Nat, q ≤ k ∧ j = .int .i64 q ∧ scn (fun z => decide (c x z < 0)) (sto c xs k) k = scn (fun z => decide (c x z < 0)) (sto c xs k) q ∧ OwnV B 3 1 intC ws (.slice (some ⟨g, 0, none⟩) xs.length cap) (rwE c xs k x q) ∧ w.grownBy ws (some g)) (fun j _ => (intOf j).toNat)
   case atStart => exact ⟨k, Nat.le_refl _, rfl, rfl, HO1.out, hg1⟩
   case round =>
    clear HO1
    obtain ⟨q, hq, rfl, hsc, hO2, hg2⟩ := hrel
    have HO2 := lh hO2; have HS := lh hsc; clear hO2 hsc
    by_cases hq0 : q = 0
    ·subst hq0
     go_wp2
     refine wp_region_kin (by kernel_rfl) (by kernel_rfl) ?_
     repeat (go_big_quiet_step ((fail)))
     refine wpQuiet_nil ?_
     intro K
     go_wp2
     go_roundw
     case rel => exact ⟨k + 1, by omega, .inl (by omega), by go_num, by rw [← rwE_end HX.out HS.out]; exact HO2.out.later K.below, grown_tr hg2 (bgr K.below _)⟩
     case measure => simp [intOf]; omega
    ·obtain ⟨q', rfl⟩ : ∃ q', q = q' + 1 := ⟨q - 1, by omega⟩
     have hol := sto_len (c := c) (xs := xs) k (by omega)
     obtain ⟨z, hz⟩ : ∃ z, (sto c xs k)[q']? = some z := ⟨_, List.getElem?_eq_getElem (by omega)⟩
     have hzm : z ∈ xs := sto_mem k z (List.mem_of_getElem? hz)
     obtain ⟨v, hv⟩ : ∃ v, c x z = v := ⟨_, rfl⟩
     have HC : Hid (∀ W, Below wr.heap.size wr W → Calls Tryz.prog 205 #[.int .i64 x, .int .i64 z, .pointer (some ⟨b0, 0, none⟩)] W fun e w' => e = .returned (.int .i64 v) ∧ Below W.heap.size W w') := lh fun W hW => by
      rw [← hv]
      exact HF.out x z (List.mem_of_getElem? HX.out) hzm W (grown_tr hg2 (bgr hW _))
     have hat : decide (c x z < 0) = decide (v < 0) := by rw [hv]
     have HAT := lh hat; have HZ := lh hz; have HE1 := lh (rwE_at (c := c) (xs := xs) (x := x) hlt hq); have HE2 := lh (rwE_pre (x := x) hlt (show q' < k by omega) hz); clear hat hz hv hzm hol
     have c1 := fun K : Kin wr.heap.size wr => (own_cellJ (HO2.out.later K.below) HE1.out).1
     have c2 := fun K : Kin wr.heap.size wr => (own_cellJ (HO2.out.later K.below) HE2.out).1
     by_cases hneg : v < 0
     ·go_wp2
      refine wp_region_kin (by kernel_rfl) (by kernel_rfl) ?_
      repeat (go_big_quiet_step ((go_at_call 205; exact Kin.call _ (by first | exact Nat.le_refl _ | omega) (HC.out _ (Kin.below _)))))
      refine wpQuiet_nil ?_
      intro K
      have hO3 := HO2.out.later K.below; have hg3 := grown_tr hg2 (bgr K.below _); clear c1 c2
      generalize K.world = WK at *
      obtain ⟨c1, f1⟩ := own_cellJ hO3 HE1.out
      obtain ⟨c2, f2⟩ := own_cellJ hO3 HE2.out
      have HO3 := lh hO3; clear hO3
      go_wp2
      go_region
      have hO4 : OwnV B 3 1 intC (World.drew (World.setCell (World.setCell WK ⟨g, q' + 1, none⟩ (.int .i64 z)) ⟨g, q', none⟩ (.int .i64 x))) (.slice (some ⟨g, 0, none⟩) xs.length cap) (rwE c xs k x q') := by
       have h := own_setJ (own_setJ HO3.out (j := q' + 1) (by rw [rwE_len hlt hq]; omega) z) (j := q') (by rw [List.length_set, rwE_len hlt hq]; omega) x
       rw [rwE_swap hlt (by omega) HZ.out] at h
       exact h.later (Below.refl _ _).drew
      have hg4 := grown_tr (grown_set (j := q') (grown_set (j := q' + 1) hg3 (.int .i64 z)) (.int .i64 x)) (bgr (Below.refl _ (World.setCell (World.setCell WK ⟨g, q' + 1, none⟩ (.int .i64 z)) ⟨g, q', none⟩ (.int .i64 x))).drew (some g)); clear c1 c2 f1 f2 HO3
      generalize (World.drew (World.setCell (World.setCell WK ⟨g, q' + 1, none⟩ (.int .i64 z)) ⟨g, q', none⟩ (.int .i64 x))) = W4 at *
      go_wp2
      go_roundw
      case rel => exact ⟨q', by omega, by go_num, HS.out.trans (scn_yes HZ.out (by rw [HAT.out]; exact decide_eq_true hneg)), hO4, hg4⟩
      case measure => simp [intOf]
     ·go_wp2
      refine wp_region_kin (by kernel_rfl) (by kernel_rfl) ?_
      repeat (go_big_quiet_step ((go_at_call 205; exact Kin.call _ (by first | exact Nat.le_refl _ | omega) (HC.out _ (Kin.below _)))))
      refine wpQuiet_nil ?_
      intro K
      have hO3 := HO2.out.later K.below; have hg3 := grown_tr hg2 (bgr K.below _); clear c1 c2
      generalize K.world = WK at *
      go_wp2
      go_roundw
      case rel => exact ⟨k + 1, by omega, .inl (by omega), by go_num, by rw [← rwE_end HX.out (HS.out.trans (scn_no HZ.out (by rw [HAT.out]; exact decide_eq_false (by omega))))]; exact hO3, hg3⟩
      case measure => simp [intOf]; omega
  ·go_wp2
   refine ⟨rfl, Value.tuple #[], by simp [results, Tryz.results215, go_sem], rfl, ?_, hg1⟩
   rw [← rwD_end hk hlt]; exact hO1
theorem stableC_is (c : Int → Int → Int) (xs : List Int) (hn : xs.length ≤ 20) (hn19 : xs.length < 20) (B g cap : Nat) (b0 : Nat) (w : World) (hBg : B ≤ g) (hBw : B ≤ w.heap.size)
  (hO : OwnV B 3 1 intC w (.slice (some ⟨g, 0, none⟩) xs.length cap) xs) (hf : ∀ x z, x ∈ xs → z ∈ xs → ∀ W, w.grownBy W (some g) → Calls Tryz.prog 205 #[.int .i64 x, .int .i64 z, .pointer (some ⟨b0, 0, none⟩)] W fun e w' => e = .returned (.int .i64 (c x z)) ∧ Below W.heap.size W w') :
 Calls Tryz.prog 210 #[.slice (some ⟨g, 0, none⟩) xs.length cap, .int .i64 xs.length, .func (.func 205) #[] #[.pointer (some ⟨b0, 0, none⟩)]] w fun e w' =>
  e = .returned (.tuple #[]) ∧ OwnV B 3 1 intC w' (.slice (some ⟨g, 0, none⟩) xs.length cap) (sto c xs xs.length) ∧ w.grownBy w' (some g) := by
 have HI := lh (insSortC_is c xs hn B g cap b0 w hBg hBw hO hf); clear hO hf
 go_in
 go_wp2
 go_loopw [7, 8] (fun a b wr => a = .int .i64 0 ∧ b = .int .i64 20 ∧ wr = w) (fun _ _ _ => 0)
 case atStart => exact ⟨rfl, rfl, rfl⟩
 case round =>
  obtain ⟨rfl, rfl, rfl⟩ := hrel
  go_wp2_with fail
  refine HI.out.mono ?_
  rintro e w1 ⟨rfl, hO1, hg1⟩
  go_wp2
  go_loopw [6, 7, 8] (fun a _ _ wr => a = .int .i64 20 ∧ wr = w1) (fun _ _ _ _ => 0)
  case atStart => exact ⟨rfl, rfl⟩
  case round =>
   obtain ⟨rfl, rfl⟩ := hrel
   go_wp2
   exact ⟨rfl, Value.tuple #[], by simp [results, Tryz.results210, go_sem], rfl, hO1, hg1⟩
theorem sortStableC_is (c : Int → Int → Int) (xs : List Int) (hn19 : xs.length < 20) (B g cap : Nat) (b0 : Nat) (w : World) (hBg : B ≤ g) (hBw : B ≤ w.heap.size)
  (hO : OwnV B 3 1 intC w (.slice (some ⟨g, 0, none⟩) xs.length cap) xs) (hf : ∀ x z, x ∈ xs → z ∈ xs → ∀ W, w.grownBy W (some g) → Calls Tryz.prog 205 #[.int .i64 x, .int .i64 z, .pointer (some ⟨b0, 0, none⟩)] W fun e w' => e = .returned (.int .i64 (c x z)) ∧ Below W.heap.size W w') :
 Calls Tryz.prog 204 #[.slice (some ⟨g, 0, none⟩) xs.length cap, .func (.func 205) #[] #[.pointer (some ⟨b0, 0, none⟩)]] w fun e w' =>
  e = .returned (.tuple #[]) ∧ OwnV B 3 1 intC w' (.slice (some ⟨g, 0, none⟩) xs.length cap) (sto c xs xs.length) ∧ w.grownBy w' (some g) := by
 have HI := lh (stableC_is c xs (by omega) hn19 B g cap b0 w hBg hBw hO hf); clear hO hf
 go_in
 go_wp2_with fail
 refine HI.out.mono ?_
 rintro e w1 ⟨rfl, hO1, hg1⟩
 go_wp2
 exact ⟨rfl, Value.tuple #[], by simp [results, Tryz.results204, go_sem], rfl, hO1, hg1⟩
end Go.Proofs.YtjimibkgocieoaaGreat
namespace Go.G9
open Go.RowKit
def Within (vs : List Value) (a b : Nat) : Prop := ∀ v ∈ vs, ∀ k, v.ownBlock = some k → a ≤ k ∧ k < b
structure GrownL (w w' : World) (vs : List Value) : Prop where
 os : w'.os = w.os
 tape : w'.tape = w.tape
 output : w'.output = w.output
 size : w.heap.size ≤ w'.heap.size
 block : ∀ i, i < w.heap.size → (∀ v ∈ vs, v.ownBlock ≠ some i) → w'.heap[i]? = w.heap[i]?
theorem GrownL.trans {w w1 w2 : World} {vs us : List Value} (h : GrownL w w1 vs) (k : GrownL w1 w2 us) : GrownL w w2 (vs ++ us) :=
 ⟨k.os.trans h.os, k.tape.trans h.tape, k.output.trans h.output, Nat.le_trans h.size k.size, fun i hi hv => (k.block i (Nat.lt_of_lt_of_le hi h.size) (fun v hm => hv v (List.mem_append_right _ hm))).trans (h.block i hi (fun v hm => hv v (List.mem_append_left _ hm)))⟩
theorem GrownL.below {w w' : World} {us : List Value} {B c d : Nat} (h : GrownL w w' us) (hu : Within us c d) (hc : B ≤ c) (hB : B ≤ w.heap.size) : Below B w w' :=
 ⟨h.os, h.tape, h.output, h.size, fun i hi => h.block i (Nat.lt_of_lt_of_le hi hB) (fun v hv e => by have := (hu v hv i e).1; omega)⟩
def Apart (vs : List Value) : Prop := vs.Pairwise fun u v => ∀ k, u.ownBlock = some k → some k ≠ v.ownBlock
theorem Apart.at {vs : List Value} (h : Apart vs) {i j : Nat} (hij : i < j) {u v : Value} (hu : vs[i]? = some u) (hv : vs[j]? = some v) : ∀ k, u.ownBlock = some k → some k ≠ v.ownBlock := by
 obtain ⟨hi, rfl⟩ := List.getElem?_eq_some_iff.1 hu
 obtain ⟨hj, rfl⟩ := List.getElem?_eq_some_iff.1 hv
 exact (List.pairwise_iff_getElem.1 h) i j hi hj hij
open Go.RowKit
theorem wpList_app1 {P : Program} {w : World} {ops : Array Oper} {rest : List Oper} {o : Oper} {a : Act} {Q : Exit → Act → World → Prop} (hgd : o.guard = none) (s x : Operand) (t : TypeId)
  (ho : o.op = .call { callee := .builtin .append, args := #[s, x], argTypes := #[t, t] })
  (B : Nat) (e : TypeId) (i : TypeInfo) (z : Value) (sz bytes : Nat) (ht : P.underlying t = some (.slice e)) (hi : P.info? e = some i) (hz : i.zero = some z)
  (hsize : i.size = sz) (hby : i.bytes = bytes) (hzs : z.cells.size = sz) (hsz : 0 < sz) {T : Type} (f : T → List Value) (hf : ∀ y, (f y).length = sz) (hone : ∀ y u, u ∈ f y → u.oneCell' = true)
  (v : Value) (xs : List T) (hs : a.eval s = v) (hown : OwnV B e sz f w v xs) (ad : Addr) (c2 : Nat) (y : T) (hx : a.eval x = .slice (some ad) 1 c2) (hR : Rds sz f w (some ad) [y])
  (h63 : xs.length + 1 ≤ maxLen) (hbytes : (xs.length + 1) * bytes ≤ 140737488355328) (hbase : B ≤ w.heap.size)
  (h : ∀ v' w', OwnV B e sz f w' v' (xs ++ [y]) → w.grownBy w' v.ownBlock → (v'.ownBlock = v.ownBlock ∨ v'.ownBlock = some w.heap.size) → wpList P ops Q rest (a.put o.dst v') w') : wpList P ops Q (o :: rest) a w := by
 refine wpList_append_own_at w hgd s x t ho B e i z sz bytes ht hi hz hsize hby hzs hsz v xs.length (xs.flatMap f) hs hown ad 1 c2 ([y].flatMap f) hx (by rw [flat_len hf]; simp) (fun j u hu => Rds.flat hR hf j u hu)
  (fun u hu => by obtain ⟨y', _, hy⟩ := List.mem_flatMap.1 hu; exact hone y' u hy) h63 hbytes hbase (fun v' w' h1 h2 _ h4 => h v' w' ?_ h2 h4)
 unfold OwnV; rw [List.length_append, List.flatMap_append]; exact h1
theorem OwnV.built {T : Type} {B sz : Nat} {f : T → List Value} (w : World) (xs : List T) (e : TypeId) (hB : B ≤ w.heap.size) (hm : xs.length ≤ maxLen) (hf : ∀ y, (f y).length = sz) :
  OwnV B e sz f (w.alloc (.cells (xs.flatMap f).toArray e)) (.slice (some ⟨w.heap.size, 0, none⟩) xs.length xs.length) xs :=
 OwnV.ofBlk (Blk.new w e _) hB (Nat.le_refl _) hm (by simp [flat_len hf]) (fun i x hx j u hu => by simpa using flat_get hf xs i x hx j u hu) hf
def Ne2 (u v : Value) : Prop := ∀ k, u.ownBlock = some k → v.ownBlock ≠ some k
theorem Ne2.symm {u v : Value} (h : Ne2 u v) : Ne2 v u := fun k h1 h2 => h k h2 h1
theorem Ne2.step {u u' v : Value} {H : Nat} (h : Ne2 u v) (hv : ∀ k, v.ownBlock = some k → k < H) (ha : u'.ownBlock = u.ownBlock ∨ u'.ownBlock = some H) : Ne2 u' v := fun k h1 h2 => by
 rcases ha with ha | ha
 ·exact h k (ha ▸ h1) h2
 ·rw [ha] at h1; have := hv k h2; injection h1 with h1; omega
theorem OwnV.ne {T : Type} {B sz : Nat} {e : TypeId} {f : T → List Value} {w w' : World} {u v : Value} {xs : List T} (h : OwnV B e sz f w v xs) (hg : w.grownBy w' u.ownBlock) (hn : Ne2 u v) : OwnV B e sz f w' v xs :=
 h.kept hg (fun k h1 h2 => hn k h2.symm h1)


open Go.RowKit
theorem Blk.setRow {w : World} {g : Nat} {t : TypeId} {cs cs' : Array Value} (h : Blk w g t cs) : Blk (w.setRow g cs') g t cs' := setRow_heap w g cs cs' t (0, 0) h
theorem grown_row {w : World} {g : Nat} {cs' : Array Value} : w.grownBy (w.setRow g cs') (some g) :=
 ⟨rfl, rfl, rfl, by simp, fun i _ hne => by
  unfold World.setRow
  simp only [Array.getElem?_modify]
  rw [if_neg (fun e => hne (by rw [e]))]⟩
theorem wpList_roomB {P : Program} {w : World} {ops : Array Oper} {rest : List Oper} {o : Oper} {a : Act} {Q : Exit → Act → World → Prop} (hgd : o.guard = none) (s x : Operand) (t : TypeId)
  (ho : o.op = .call { callee := .builtin .append, args := #[s, x], argTypes := #[t, t] })
  (e : TypeId) (i : TypeInfo) (ht : P.underlying t = some (.slice e)) (hi : P.info? e = some i) (g n cap : Nat) (cur : Array Value) (hs : a.eval s = .slice (some ⟨g, 0, none⟩) n cap) (hg : Blk w g e cur)
  (ad : Addr) (m c : Nat) (news : List Value) (hx : a.eval x = .slice (some ad) m c) (hl : news.length = m * i.size) (hnews : ∀ j u, news[j]? = some u → w.cell? (ad.add j) = some u) (h1 : ∀ u ∈ news, u.oneCell' = true)
  (hroom : n + m ≤ cap) (hfit : n * i.size + news.length ≤ cur.size)
  (h : ∀ (W' : World) (cs' : List Value), cs' = cur.toList.take (n * i.size) ++ news ++ cur.toList.drop (n * i.size + news.length) → Blk W' g e cs'.toArray → w.grownBy W' (some g) → wpList P ops Q rest (a.put o.dst (.slice (some ⟨g, 0, none⟩) (n + m) cap)) W') : wpList P ops Q (o :: rest) a w := by
 refine wpList_plain hgd fun _ hK => ?_
 have hr := run_append_room (P := P) w t o.type e i ht hi g n cap cur hg ad m c news hl hnews h1 hroom hfit
 unfold Oper.wp execOp
 simp only [ho, resolve, invoke, builtin, Sem.run_bind, Sem.run_pure, Result.andThen_ok, List.map_toArray, List.map_cons, List.map_nil, hs, hx, hr]
 exact hK _ _ (h _ _ rfl hg.setRow grown_row)
theorem OwnV.whole {T : Type} {B sz : Nat} {f : T → List Value} {e : TypeId} {w : World} {v : Value} {xs : List T} (hO : OwnV B e sz f w v xs) (hf : ∀ y, (f y).length = sz) (hn : 0 < xs.length) :
  ∃ g cap cs, v = .slice (some ⟨g, 0, none⟩) xs.length cap ∧ B ≤ g ∧ Blk w g e cs ∧ xs.length ≤ cap ∧ cap ≤ maxLen ∧ cs.size = cap * sz ∧ ∀ i x, xs[i]? = some x → ∀ j u, (f x)[j]? = some u → cs[i * sz + j]? = some u := by
 rcases hO.2 with ⟨_, h0⟩ | ⟨g, cap, cur, hv, hB, hh, hnc, hcm, hcs, htake⟩
 ·omega
 ·refine ⟨g, cap, cur, hv, hB, hh, hnc, hcm, hcs, fun i x hx j u hu => ?_⟩
  have h1 := flat_get hf xs i x hx j u hu
  rw [← htake, List.getElem?_take] at h1
  split at h1
  ·simpa using h1
  ·cases h1
theorem flat_drop {T : Type} {sz : Nat} {f : T → List Value} (hf : ∀ y, (f y).length = sz) (xs : List T) (k j : Nat) (u : Value) (h : ((xs.drop k).flatMap f)[j]? = some u) : (xs.flatMap f)[k * sz + j]? = some u := by
 obtain ⟨i, j', x, hx, hj, rfl⟩ := flat_inv hf _ _ _ h
 rw [List.getElem?_drop] at hx
 have := flat_get hf xs (k + i) x hx j' u hj
 rwa [Nat.add_mul, Nat.add_assoc] at this
open Go.RowKit
theorem wpList_appE {P : Program} {w : World} {ops : Array Oper} {rest : List Oper} {o : Oper} {a : Act} {Q : Exit → Act → World → Prop} (hgd : o.guard = none) (s x : Operand) (t : TypeId)
  (ho : o.op = .call { callee := .builtin .append, args := #[s, x], argTypes := #[t, t] })
  (B : Nat) (e : TypeId) (i : TypeInfo) (z : Value) (sz bytes : Nat) (ht : P.underlying t = some (.slice e)) (hi : P.info? e = some i) (hz : i.zero = some z)
  (hsize : i.size = sz) (hby : i.bytes = bytes) (hzs : z.cells.size = sz) (hsz : 0 < sz) {T : Type} (f : T → List Value) (hf : ∀ y, (f y).length = sz) (_hone : ∀ y u, u ∈ f y → u.oneCell' = true)
  (g : Nat) (hs : a.eval s = .slice (some ⟨g, 0, none⟩) 0 0) (hg : Blk w g e #[]) (hBg : B ≤ g) (ad : Addr) (c2 : Nat) (ys : List T) (hx : a.eval x = .slice (some ad) ys.length c2) (hR : Rds sz f w (some ad) ys)
  (h63 : ys.length ≤ maxLen) (hbytes : ys.length * bytes ≤ 140737488355328)
  (h : ∀ g' c' w', OwnV B e sz f w' (.slice (some ⟨g', 0, none⟩) ys.length c') ys → Below w.heap.size w w' → (g' = g ∨ w.heap.size ≤ g') → wpList P ops Q rest (a.put o.dst (.slice (some ⟨g', 0, none⟩) ys.length c')) w') : wpList P ops Q (o :: rest) a w := by
 rcases Nat.eq_zero_or_pos ys.length with h0 | h0
 ·have hy : ys = [] := List.length_eq_zero_iff.1 h0
  subst hy
  refine wpList_roomB hgd s x t ho e i ht hi g 0 0 #[] hs hg ad 0 c2 [] hx (by simp) (fun j u hu => by simp at hu) (fun u hu => by simp at hu) (by omega) (by simp) fun W' cs' hcs hb hgr => ?_
  have hcs' : cs' = [] := by rw [hcs]; simp
  subst hcs'
  have hb' : Blk W' g e #[] := hb
  refine h g 0 W' ?_ ⟨hgr.os, hgr.tape, hgr.output, hgr.size, fun k hk => ?_⟩ (.inl rfl)
  ·exact OwnV.filled (xs := []) hb' hBg (by simp) (by unfold maxLen; simp) (by simp) hf
  ·by_cases hkg : k = g
   ·subst hkg; exact Eq.trans hb' (Eq.symm hg)
   ·exact hgr.block k hk (fun e => hkg (Option.some.inj e))
 ·subst hsize; subst hby
  have hge := grownCap_ge w (0 + ys.length) 0 e; have hcm := grownCap_le_maxLen w (0 + ys.length) 0 e (by omega); have hml := h63
  unfold maxLen at hml
  have hr := run_append_grow (P := P) w t o.type e i z ht hi hz ⟨g, 0, none⟩ 0 0 [] (by simp) (by intro j v hj; simp at hj) ad ys.length c2 (ys.flatMap f) (flat_len hf ys) (fun j u hu => Rds.flat hR hf j u hu)
   (by omega) (by omega) (by rw [Nat.zero_add, nextslicecap_zero h0]; omega)
  refine wpList_plain hgd fun _ hK => ?_
  unfold Oper.wp execOp
  simp only [ho, resolve, invoke, builtin, Sem.run_bind, Sem.run_pure, Result.andThen_ok, List.map_toArray, List.map_cons, List.map_nil, hs, hx, hr]
  refine hK _ _ ?_
  rw [Nat.zero_add]
  rw [Nat.zero_add] at hge hcm
  refine h w.heap.size _ _ ?_ ⟨rfl, rfl, rfl, by simp, fun k hk => (bl1 w.drew _).block k hk⟩ (.inr (Nat.le_refl _))
  refine ⟨flat_len hf ys, .inr ⟨w.heap.size, _, _, rfl, Nat.le_trans hBg (Nat.le_of_lt (Array.getElem?_eq_some_iff.1 hg).1), (Blk.new w.drew _ _), hge, hcm, ?_, ?_⟩⟩
  ·simp only [Array.size_append, List.size_toArray, size_zeroCells, hzs, flat_len hf, List.length_nil, Nat.zero_add, ← Nat.add_mul]
   congr 1
   omega
  ·simp [flat_len hf]
end Go.G9
namespace Go.Proofs.YtjimibkgocieoaaGreat
open Go.RowKit Go.G9
structure Res where
 motion : ByteArray
 need : Int
 yes : Int
 no : Int
 abst : Int
 ok : motion.size ≤ maxLen
def Res.cells (r : Res) : List Value := [.string r.motion, .int .i64 r.need, .int .i64 r.yes, .int .i64 r.no, .int .i64 r.abst]
def tallyB (y n a : Int) : Bool := inB y 0 1000 && (inB n 0 1000 && inB a 0 1000)
theorem zb121 {p : Prop} (h : p := by
 subst hv
 go_in
 go_wp2_with (go_at_call 118; refine (inside_is _ _ _ _ rfl _).mono ?_; rintro e w' ⟨rfl, rfl⟩)
 go_ret
 exact ⟨rfl, rfl⟩) : p := h
theorem areVotes_is (n : Int) (v : Bool) (hv : inB n 0 1000 = v) (w : World) : Calls Tryz.prog 125 #[.int .i64 n] w fun e w' => e = .returned (.bool v) ∧ w' = w := by
 exact zb121
theorem l11Votes_is (n : Int) (v : Bool) (hv : inB n 0 1000 = v) (w : World) : Calls Tryz.prog 201 #[.int .i64 n] w fun e w' => e = .returned (.bool v) ∧ w' = w := by
 subst hv
 go_in
 go_wp2_with (go_at_call 136; refine (l1In_is _ _ _ _ rfl _).mono ?_; rintro e w' ⟨rfl, rfl⟩)
 go_ret
 exact ⟨rfl, rfl⟩
theorem isNeed_is (n : Int) (v : Bool) (hv : inB n 1 3 = v) (w : World) : Calls Tryz.prog 59 #[.int .i64 n] w fun e w' => e = .returned (.bool v) ∧ w' = w := by
 exact zb121
theorem isValidTally_is (y n a : Int) (v : Bool) (hv : tallyB y n a = v) (w : World) : Calls Tryz.prog 60 #[.agg #[.int .i64 y, .int .i64 n, .int .i64 a]] w fun e w' => e = .returned (.bool v) ∧ Below w.heap.size w w' := by
 subst hv
 go_in
 go_wp2_with (go_at_call 125; refine (areVotes_is _ _ rfl _).mono ?_; rintro e w' ⟨rfl, rfl⟩)
 all_goals go_ret
 all_goals exact ⟨by simp [tallyB, *], bl1 _ _⟩
theorem l11Good_is (y n a : Int) (v : Bool) (hv : tallyB y n a = v) (w : World) : Calls Tryz.prog 178 #[.agg #[.int .i64 y, .int .i64 n, .int .i64 a]] w fun e w' => e = .returned (.bool v) ∧ Below w.heap.size w w' := by
 subst hv
 go_in
 go_wp2_with (go_at_call 201; refine (l11Votes_is _ _ rfl _).mono ?_; rintro e w' ⟨rfl, rfl⟩)
 all_goals go_ret
 all_goals exact ⟨by simp [tallyB, *], bl1 _ _⟩
open Go.RowKit Go.G9
structure Dec where
 id : Int
 day : Int
 need : Int
 yes : List Int
 no : List Int
 done : Bool
open Go.RowKit Go.G9
theorem Blk.far {w : World} {g : Nat} {t : TypeId} {cs : Array Value} (h : Blk w g t cs) {p : Addr} (hp : g ≠ p.block) (u : Value) : Blk (w.setCell p u) g t cs := (Below.heap_setCell w p u g hp).trans h
open Go.RowKit Go.G9
def adoB (need y n : Int) : Bool := if need = 1 then decide (n < y) else if need = 2 then decide (0 < y + n) && decide (2 * n ≤ y) else decide (0 < y) && decide (n = 0)
theorem zb23 {p : Prop} (h : p := by
 subst hv
 by_cases c1 : need = 1
 ·subst c1
  go_in
  go_wp2
  go_ret
  exact ⟨ret_bool (by simp [adoB]), rfl⟩
 by_cases c2 : need = 2
 ·subst c2
  by_cases c3 : 0 < y + n
  ·go_in
   go_wp2
   go_ret
   exact ⟨ret_bool (by rw [Bool.eq_iff_iff]; simp [adoB] <;> omega), rfl⟩
  ·go_in
   go_wp2
   go_ret
   exact ⟨ret_bool (by rw [Bool.eq_iff_iff]; simp [adoB] <;> omega), rfl⟩
 ·have d1 : (need == 1) = false := beq_eq_false_iff_ne.2 c1
  have d2 : (need == 2) = false := beq_eq_false_iff_ne.2 c2
  by_cases c3 : 0 < y
  ·go_in
   go_wp2
   go_ret
   exact ⟨ret_bool (by rw [Bool.eq_iff_iff]; simp [adoB, c1, c2] <;> omega), rfl⟩
  ·go_in
   go_wp2
   go_ret
   exact ⟨ret_bool (by rw [Bool.eq_iff_iff]; simp [adoB, c1, c2] <;> omega), rfl⟩) : p := h
theorem isAdopted_is (need y n : Int) (h0 : -10000 ≤ y) (h1 : y ≤ 10000) (h2 : -10000 ≤ n) (h3 : n ≤ 10000) (v : Bool) (hv : adoB need y n = v) (w : World) : Calls Tryz.prog 61 #[.int .i64 need, .int .i64 y, .int .i64 n] w fun e w' => e = .returned (.bool v) ∧ w' = w := by
 exact zb23
theorem l11Enough_is (need y n : Int) (h0 : -10000 ≤ y) (h1 : y ≤ 10000) (h2 : -10000 ≤ n) (h3 : n ≤ 10000) (v : Bool) (hv : adoB need y n = v) (w : World) : Calls Tryz.prog 202 #[.int .i64 need, .int .i64 y, .int .i64 n] w fun e w' => e = .returned (.bool v) ∧ w' = w := by
 exact zb23
def Dec.ado (d : Dec) : Bool := adoB d.need d.yes.length d.no.length
end Go.Proofs.YtjimibkgocieoaaGreat
namespace Go.G9
open Go.RowKit Go.Sort Go.Proofs
theorem flat_one {T : Type} (enc : T → Value) (xs : List T) : xs.flatMap (fun x => [enc x]) = xs.map enc := by induction xs <;> simp_all
theorem own_put {T : Type} [Inhabited T] {enc : T → Value} {B : Nat} {e : TypeId} {w : World} {g cap q k : Nat} {zs ys : List T} {os : Array Obj} (h : OwnV B e 1 (fun x => [enc x]) w (.slice (some ⟨g, 0, none⟩) zs.length cap) zs) (hy : ys.length = zs.length) (hk : k ≤ zs.length) :
  OwnV B e 1 (fun x => [enc x]) (grow (putRow enc (Sort.ahead w q) g 0 ys.toArray) os) (.slice (some ⟨g, 0, none⟩) k cap) (ys.take k) ∧ w.grownBy (grow (putRow enc (Sort.ahead w q) g 0 ys.toArray) os) (some g) := by
 have hg : w.grownBy (grow (putRow enc (Sort.ahead w q) g 0 ys.toArray) os) (some g) := by
  refine ⟨rfl, rfl, rfl, by simp, fun k hk hne => ?_⟩
  rw [heap_grow_old _ _ (by simpa using hk)]
  have : g ≠ k := fun e => hne (by rw [e])
  simp [putRow, mapBlock, Sort.ahead, Array.getElem?_modify, this]
 have h1 : w.ownsRow B e 1 (.slice (some ⟨g, 0, none⟩) zs.length cap) zs.length (zs.map enc) := by rw [← flat_one]; exact h
 have h2 := Lib.ownsRow_putRow (q := q) h1 hy hk
 refine ⟨?_, hg⟩
 unfold OwnV
 rw [flat_one, List.length_take, Nat.min_eq_left (by omega)]
 obtain ⟨hl, hc⟩ := h2
 refine ⟨hl, ?_⟩
 rcases hc with ⟨e0, _⟩ | ⟨g', cap', cur, e0, hB, hh, r⟩
 ·cases e0
 ·refine .inr ⟨g', cap', cur, e0, hB, ?_, r⟩
  rw [heap_grow_old _ _ (Array.getElem?_eq_some_iff.1 hh).1]; exact hh
theorem own_holds {T : Type} [Inhabited T] {enc : T → Value} {B : Nat} {e : TypeId} {w : World} {g cap : Nat} {zs : List T} (h : OwnV B e 1 (fun x => [enc x]) w (.slice (some ⟨g, 0, none⟩) zs.length cap) zs) :
  Holds enc w g 0 zs.toArray ∧ g < w.heap.size ∧ zs.length ≤ cap ∧ cap ≤ maxLen := by
 have h1 : w.ownsRow B e 1 (.slice (some ⟨g, 0, none⟩) zs.length cap) zs.length (zs.map enc) := by rw [← flat_one]; exact h
 obtain ⟨g', cap', e1, h2, h3, h4, h5, h6, h7⟩ := Lib.holds_of_ownsRow h1 (by intro e; cases e)
 injection e1 with e2 _ e4
 injection e2 with e2
 injection e2 with e2
 subst e2; subst e4
 exact ⟨h7, h3, h4, h5⟩
end Go.G9
namespace Go.Proofs.YtjimibkgocieoaaGreat
open Go.RowKit Go.G9 Go.Sort
end Go.Proofs.YtjimibkgocieoaaGreat
