/- Texts of the proof: walks of the functions, and what they compute. -/
import Derived.Deep.Cut
import Derived.Laws.CopyRow
import Derived.Test.YtjimibkgocieoaaGreatRa3
import Derived.Test.YtjimibkgocieoaaGreatRa1
import Derived.Test.YtjimibkgocieoaaGreatRa0
import Derived.Lib.OwnBridge
import Derived.Lib.SlicesCompact
set_option maxHeartbeats 16000000
set_option maxRecDepth 100000
namespace Go.G9
open Go.RowKit
theorem Blk.setRow {w : World} {g : Nat} {t : TypeId} {cs cs' : Array Value} (h : Blk w g t cs) : Blk (w.setRow g cs') g t cs' := setRow_heap w g cs cs' t (0, 0) h
theorem grown_row {w : World} {g : Nat} {cs' : Array Value} : w.grownBy (w.setRow g cs') (some g) :=
 ⟨rfl, rfl, rfl, by simp, fun i _ hne => by
  unfold World.setRow
  simp only [Array.getElem?_modify]
  rw [if_neg (fun e => hne (by rw [e]))]⟩
theorem wpList_roomB {P : Program} {w : World} {ops : Array Oper} {rest : List Oper} {o : Oper} {a : Act} {Q : Exit → Act → World → Prop} (hgd : o.guard = none) (s x : Operand) (t : TypeId)
  (ho : o.op = .call { callee := .builtin .append, args := #[s, x], argTypes := #[t, t] })
  (e : TypeId) (i : TypeInfo) (ht : P.underlying t = some (.slice e)) (hi : P.info? e = some i) (g n cap : Nat) (cur : Array Value) (hs : a.eval s = .slice (some ⟨g, 0, none⟩) n cap) (hg : Blk w g e cur)
  (ad : Addr) (m c : Nat) (news : List Value) (hx : a.eval x = .slice (some ad) m c) (hl : news.length = m * i.size) (hnews : ∀ j u, news[j]? = some u → w.cell? (ad.add j) = some u) (h1 : ∀ u ∈ news, u.oneCell' = true)
  (hroom : n + m ≤ cap) (hfit : n * i.size + news.length ≤ cur.size)
  (h : ∀ (W' : World) (cs' : List Value), cs' = cur.toList.take (n * i.size) ++ news ++ cur.toList.drop (n * i.size + news.length) → Blk W' g e cs'.toArray → w.grownBy W' (some g) → wpList P ops Q rest (a.put o.dst (.slice (some ⟨g, 0, none⟩) (n + m) cap)) W') : wpList P ops Q (o :: rest) a w := by
 refine wpList_plain hgd fun _ hK => ?_
 have hr := run_append_room (P := P) w t o.type e i ht hi g n cap cur hg ad m c news hl hnews h1 hroom hfit
 unfold Oper.wp execOp
 simp only [ho, resolve, invoke, builtin, Sem.run_bind, Sem.run_pure, Result.andThen_ok, List.map_toArray, List.map_cons, List.map_nil, hs, hx, hr]
 exact hK _ _ (h _ _ rfl hg.setRow grown_row)
theorem OwnV.whole {T : Type} {B sz : Nat} {f : T → List Value} {e : TypeId} {w : World} {v : Value} {xs : List T} (hO : OwnV B e sz f w v xs) (hf : ∀ y, (f y).length = sz) (hn : 0 < xs.length) :
  ∃ g cap cs, v = .slice (some ⟨g, 0, none⟩) xs.length cap ∧ B ≤ g ∧ Blk w g e cs ∧ xs.length ≤ cap ∧ cap ≤ maxLen ∧ cs.size = cap * sz ∧ ∀ i x, xs[i]? = some x → ∀ j u, (f x)[j]? = some u → cs[i * sz + j]? = some u := by
 rcases hO.2 with ⟨_, h0⟩ | ⟨g, cap, cur, hv, hB, hh, hnc, hcm, hcs, htake⟩
 ·omega
 ·refine ⟨g, cap, cur, hv, hB, hh, hnc, hcm, hcs, fun i x hx j u hu => ?_⟩
  have h1 := flat_get hf xs i x hx j u hu
  rw [← htake, List.getElem?_take] at h1
  split at h1
  ·simpa using h1
  ·cases h1
theorem flat_drop {T : Type} {sz : Nat} {f : T → List Value} (hf : ∀ y, (f y).length = sz) (xs : List T) (k j : Nat) (u : Value) (h : ((xs.drop k).flatMap f)[j]? = some u) : (xs.flatMap f)[k * sz + j]? = some u := by
 obtain ⟨i, j', x, hx, hj, rfl⟩ := flat_inv hf _ _ _ h
 rw [List.getElem?_drop] at hx
 have := flat_get hf xs (k + i) x hx j' u hj
 rwa [Nat.add_mul, Nat.add_assoc] at this
open Go.RowKit
theorem wpList_appE {P : Program} {w : World} {ops : Array Oper} {rest : List Oper} {o : Oper} {a : Act} {Q : Exit → Act → World → Prop} (hgd : o.guard = none) (s x : Operand) (t : TypeId)
  (ho : o.op = .call { callee := .builtin .append, args := #[s, x], argTypes := #[t, t] })
  (B : Nat) (e : TypeId) (i : TypeInfo) (z : Value) (sz bytes : Nat) (ht : P.underlying t = some (.slice e)) (hi : P.info? e = some i) (hz : i.zero = some z)
  (hsize : i.size = sz) (hby : i.bytes = bytes) (hzs : z.cells.size = sz) (hsz : 0 < sz) {T : Type} (f : T → List Value) (hf : ∀ y, (f y).length = sz) (_hone : ∀ y u, u ∈ f y → u.oneCell' = true)
  (g : Nat) (hs : a.eval s = .slice (some ⟨g, 0, none⟩) 0 0) (hg : Blk w g e #[]) (hBg : B ≤ g) (ad : Addr) (c2 : Nat) (ys : List T) (hx : a.eval x = .slice (some ad) ys.length c2) (hR : Rds sz f w (some ad) ys)
  (h63 : ys.length ≤ maxLen) (hbytes : ys.length * bytes ≤ 140737488355328)
  (h : ∀ g' c' w', OwnV B e sz f w' (.slice (some ⟨g', 0, none⟩) ys.length c') ys → Below w.heap.size w w' → (g' = g ∨ w.heap.size ≤ g') → wpList P ops Q rest (a.put o.dst (.slice (some ⟨g', 0, none⟩) ys.length c')) w') : wpList P ops Q (o :: rest) a w := by
 rcases Nat.eq_zero_or_pos ys.length with h0 | h0
 ·have hy : ys = [] := List.length_eq_zero_iff.1 h0
  subst hy
  refine wpList_roomB hgd s x t ho e i ht hi g 0 0 #[] hs hg ad 0 c2 [] hx (by simp) (fun j u hu => by simp at hu) (fun u hu => by simp at hu) (by omega) (by simp) fun W' cs' hcs hb hgr => ?_
  have hcs' : cs' = [] := by rw [hcs]; simp
  subst hcs'
  have hb' : Blk W' g e #[] := hb
  refine h g 0 W' ?_ ⟨hgr.os, hgr.tape, hgr.output, hgr.size, fun k hk => ?_⟩ (.inl rfl)
  ·exact OwnV.filled (xs := []) hb' hBg (by simp) (by unfold maxLen; simp) (by simp) hf
  ·by_cases hkg : k = g
   ·subst hkg; exact Eq.trans hb' (Eq.symm hg)
   ·exact hgr.block k hk (fun e => hkg (Option.some.inj e))
 ·subst hsize; subst hby
  have hge := grownCap_ge w (0 + ys.length) 0 e; have hcm := grownCap_le_maxLen w (0 + ys.length) 0 e (by omega); have hml := h63
  unfold maxLen at hml
  have hr := run_append_grow (P := P) w t o.type e i z ht hi hz ⟨g, 0, none⟩ 0 0 [] (by simp) (by intro j v hj; simp at hj) ad ys.length c2 (ys.flatMap f) (flat_len hf ys) (fun j u hu => Rds.flat hR hf j u hu)
   (by omega) (by omega) (by rw [Nat.zero_add, nextslicecap_zero h0]; omega)
  refine wpList_plain hgd fun _ hK => ?_
  unfold Oper.wp execOp
  simp only [ho, resolve, invoke, builtin, Sem.run_bind, Sem.run_pure, Result.andThen_ok, List.map_toArray, List.map_cons, List.map_nil, hs, hx, hr]
  refine hK _ _ ?_
  rw [Nat.zero_add]
  rw [Nat.zero_add] at hge hcm
  refine h w.heap.size _ _ ?_ ⟨rfl, rfl, rfl, by simp, fun k hk => (bl1 w.drew _).block k hk⟩ (.inr (Nat.le_refl _))
  refine ⟨flat_len hf ys, .inr ⟨w.heap.size, _, _, rfl, Nat.le_trans hBg (Nat.le_of_lt (Array.getElem?_eq_some_iff.1 hg).1), (Blk.new w.drew _ _), hge, hcm, ?_, ?_⟩⟩
  ·simp only [Array.size_append, List.size_toArray, size_zeroCells, hzs, flat_len hf, List.length_nil, Nat.zero_add, ← Nat.add_mul]
   congr 1
   omega
  ·simp [flat_len hf]
end Go.G9
namespace Go.Proofs.YtjimibkgocieoaaGreat
open Go.RowKit Go.G9
structure Res where
 motion : ByteArray
 need : Int
 yes : Int
 no : Int
 abst : Int
 ok : motion.size ≤ maxLen
def Res.cells (r : Res) : List Value := [.string r.motion, .int .i64 r.need, .int .i64 r.yes, .int .i64 r.no, .int .i64 r.abst]
def tallyB (y n a : Int) : Bool := inB y 0 1000 && (inB n 0 1000 && inB a 0 1000)
theorem zb137 {p : Prop} (h : p := by
 go_wp2_with (go_at_call 118; refine (inside_is _ _ _ _ rfl _).mono ?_; rintro e w' ⟨rfl, rfl⟩)
 go_ret
 exact ⟨rfl, rfl⟩) : p := h
theorem areVotes_is (n : Int) (v : Bool) (hv : inB n 0 1000 = v) (w : World) : Calls Tryz.prog 125 #[.int .i64 n] w fun e w' => e = .returned (.bool v) ∧ w' = w := by
 subst hv
 go_enter Tryz.func125, Tryz.ntmps125
 exact zb137
theorem l11Votes_is (n : Int) (v : Bool) (hv : inB n 0 1000 = v) (w : World) : Calls Tryz.prog 201 #[.int .i64 n] w fun e w' => e = .returned (.bool v) ∧ w' = w := by
 subst hv
 go_enter Tryz.func201, Tryz.ntmps201
 go_wp2_with (go_at_call 136; refine (l1In_is _ _ _ _ rfl _).mono ?_; rintro e w' ⟨rfl, rfl⟩)
 go_ret
 exact ⟨rfl, rfl⟩
theorem isNeed_is (n : Int) (v : Bool) (hv : inB n 1 3 = v) (w : World) : Calls Tryz.prog 59 #[.int .i64 n] w fun e w' => e = .returned (.bool v) ∧ w' = w := by
 subst hv
 go_enter Tryz.func59, Tryz.ntmps59
 exact zb137
theorem isValidTally_is (y n a : Int) (v : Bool) (hv : tallyB y n a = v) (w : World) : Calls Tryz.prog 60 #[.agg #[.int .i64 y, .int .i64 n, .int .i64 a]] w fun e w' => e = .returned (.bool v) ∧ Below w.heap.size w w' := by
 subst hv
 go_enter Tryz.func60, Tryz.ntmps60
 go_wp2_with (go_at_call 125; refine (areVotes_is _ _ rfl _).mono ?_; rintro e w' ⟨rfl, rfl⟩)
 all_goals go_ret
 all_goals exact ⟨by simp [tallyB, *], bl1 _ _⟩
theorem l11Good_is (y n a : Int) (v : Bool) (hv : tallyB y n a = v) (w : World) : Calls Tryz.prog 178 #[.agg #[.int .i64 y, .int .i64 n, .int .i64 a]] w fun e w' => e = .returned (.bool v) ∧ Below w.heap.size w w' := by
 subst hv
 go_enter Tryz.func178, Tryz.ntmps178
 go_wp2_with (go_at_call 201; refine (l11Votes_is _ _ rfl _).mono ?_; rintro e w' ⟨rfl, rfl⟩)
 all_goals go_ret
 all_goals exact ⟨by simp [tallyB, *], bl1 _ _⟩
open Go.RowKit Go.G9
structure Dec where
 id : Int
 day : Int
 need : Int
 yes : List Int
 no : List Int
 done : Bool
open Go.RowKit Go.G9
theorem Blk.far {w : World} {g : Nat} {t : TypeId} {cs : Array Value} (h : Blk w g t cs) {p : Addr} (hp : g ≠ p.block) (u : Value) : Blk (w.setCell p u) g t cs := (Below.heap_setCell w p u g hp).trans h
open Go.RowKit Go.G9
def adoB (need y n : Int) : Bool := if need = 1 then decide (n < y) else if need = 2 then decide (0 < y + n) && decide (2 * n ≤ y) else decide (0 < y) && decide (n = 0)
theorem zb140 {p : Prop} (h : p := by
 go_enter Tryz.func61, Tryz.ntmps61
 go_wp2
 go_ret
 exact ⟨ret_bool (by rw [Bool.eq_iff_iff]; simp [adoB] <;> omega), rfl⟩) : p := h
theorem zb135 {p : Prop} (h : p := by
 go_enter Tryz.func61, Tryz.ntmps61
 go_wp2
 go_ret
 exact ⟨ret_bool (by rw [Bool.eq_iff_iff]; simp [adoB, c1, c2] <;> omega), rfl⟩) : p := h
theorem isAdopted_is (need y n : Int) (h0 : -10000 ≤ y) (h1 : y ≤ 10000) (h2 : -10000 ≤ n) (h3 : n ≤ 10000) (v : Bool) (hv : adoB need y n = v) (w : World) : Calls Tryz.prog 61 #[.int .i64 need, .int .i64 y, .int .i64 n] w fun e w' => e = .returned (.bool v) ∧ w' = w := by
 subst hv
 by_cases c1 : need = 1
 ·subst c1
  go_enter Tryz.func61, Tryz.ntmps61
  go_wp2
  go_ret
  exact ⟨ret_bool (by simp [adoB]), rfl⟩
 by_cases c2 : need = 2
 ·subst c2
  by_cases c3 : 0 < y + n
  ·exact zb140
  ·exact zb140
 ·have d1 : (need == 1) = false := beq_eq_false_iff_ne.2 c1
  have d2 : (need == 2) = false := beq_eq_false_iff_ne.2 c2
  by_cases c3 : 0 < y
  ·exact zb135
  ·exact zb135
theorem zb139 {p : Prop} (h : p := by
 go_enter Tryz.func202, Tryz.ntmps202
 go_wp2
 go_ret
 exact ⟨ret_bool (by rw [Bool.eq_iff_iff]; simp [adoB] <;> omega), rfl⟩) : p := h
theorem zb133 {p : Prop} (h : p := by
 go_enter Tryz.func202, Tryz.ntmps202
 go_wp2
 go_ret
 exact ⟨ret_bool (by rw [Bool.eq_iff_iff]; simp [adoB, c1, c2] <;> omega), rfl⟩) : p := h
theorem l11Enough_is (need y n : Int) (h0 : -10000 ≤ y) (h1 : y ≤ 10000) (h2 : -10000 ≤ n) (h3 : n ≤ 10000) (v : Bool) (hv : adoB need y n = v) (w : World) : Calls Tryz.prog 202 #[.int .i64 need, .int .i64 y, .int .i64 n] w fun e w' => e = .returned (.bool v) ∧ w' = w := by
 subst hv
 by_cases c1 : need = 1
 ·subst c1
  go_enter Tryz.func202, Tryz.ntmps202
  go_wp2
  go_ret
  exact ⟨ret_bool (by simp [adoB]), rfl⟩
 by_cases c2 : need = 2
 ·subst c2
  by_cases c3 : 0 < y + n
  ·exact zb139
  ·exact zb139
 ·have d1 : (need == 1) = false := beq_eq_false_iff_ne.2 c1
  have d2 : (need == 2) = false := beq_eq_false_iff_ne.2 c2
  by_cases c3 : 0 < y
  ·exact zb133
  ·exact zb133
def Dec.ado (d : Dec) : Bool := adoB d.need d.yes.length d.no.length
end Go.Proofs.YtjimibkgocieoaaGreat
namespace Go.G9
open Go.RowKit Go.Sort Go.Proofs
theorem flat_one {T : Type} (enc : T → Value) (xs : List T) : xs.flatMap (fun x => [enc x]) = xs.map enc := by induction xs <;> simp_all
theorem own_put {T : Type} [Inhabited T] {enc : T → Value} {B : Nat} {e : TypeId} {w : World} {g cap q k : Nat} {zs ys : List T} {os : Array Obj} (h : OwnV B e 1 (fun x => [enc x]) w (.slice (some ⟨g, 0, none⟩) zs.length cap) zs) (hy : ys.length = zs.length) (hk : k ≤ zs.length) :
  OwnV B e 1 (fun x => [enc x]) (grow (putRow enc (Sort.ahead w q) g 0 ys.toArray) os) (.slice (some ⟨g, 0, none⟩) k cap) (ys.take k) ∧ w.grownBy (grow (putRow enc (Sort.ahead w q) g 0 ys.toArray) os) (some g) := by
 have hg : w.grownBy (grow (putRow enc (Sort.ahead w q) g 0 ys.toArray) os) (some g) := by
  refine ⟨rfl, rfl, rfl, by simp, fun k hk hne => ?_⟩
  rw [heap_grow_old _ _ (by simpa using hk)]
  have : g ≠ k := fun e => hne (by rw [e])
  simp [putRow, mapBlock, Sort.ahead, Array.getElem?_modify, this]
 have h1 : w.ownsRow B e 1 (.slice (some ⟨g, 0, none⟩) zs.length cap) zs.length (zs.map enc) := by rw [← flat_one]; exact h
 have h2 := Lib.ownsRow_putRow (q := q) h1 hy hk
 refine ⟨?_, hg⟩
 unfold OwnV
 rw [flat_one, List.length_take, Nat.min_eq_left (by omega)]
 obtain ⟨hl, hc⟩ := h2
 refine ⟨hl, ?_⟩
 rcases hc with ⟨e0, _⟩ | ⟨g', cap', cur, e0, hB, hh, r⟩
 ·cases e0
 ·refine .inr ⟨g', cap', cur, e0, hB, ?_, r⟩
  rw [heap_grow_old _ _ (Array.getElem?_eq_some_iff.1 hh).1]; exact hh
theorem own_holds {T : Type} [Inhabited T] {enc : T → Value} {B : Nat} {e : TypeId} {w : World} {g cap : Nat} {zs : List T} (h : OwnV B e 1 (fun x => [enc x]) w (.slice (some ⟨g, 0, none⟩) zs.length cap) zs) :
  Holds enc w g 0 zs.toArray ∧ g < w.heap.size ∧ zs.length ≤ cap ∧ cap ≤ maxLen := by
 have h1 : w.ownsRow B e 1 (.slice (some ⟨g, 0, none⟩) zs.length cap) zs.length (zs.map enc) := by rw [← flat_one]; exact h
 obtain ⟨g', cap', e1, h2, h3, h4, h5, h6, h7⟩ := Lib.holds_of_ownsRow h1 (by intro e; cases e)
 injection e1 with e2 _ e4
 injection e2 with e2
 injection e2 with e2
 subst e2; subst e4
 exact ⟨h7, h3, h4, h5⟩
end Go.G9
namespace Go.Proofs.YtjimibkgocieoaaGreat
open Go.RowKit Go.G9 Go.Sort
open Go.RowKit Go.G9
structure Rul where
 id : Int
 name : ByteArray
 rank : Int
 second : Bool
 debate : Bool
 amend : Bool
 need : Int
 ok : name.size ≤ maxLen
def Rul.cells (r : Rul) : List Value := [.int .i64 r.id, .string r.name, .int .i64 r.rank, .bool r.second, .bool r.debate, .bool r.amend, .int .i64 r.need]
structure Que where
 rule : Int
 mover : Int
 sec : Bool
def Que.cells (q : Que) : List Value := [.int .i64 q.rule, .int .i64 q.mover, .bool q.sec]
structure Sha where
 mem : Int
 turns : Int
 secs : Int
def Sha.cells (s : Sha) : List Value := [.int .i64 s.mem, .int .i64 s.turns, .int .i64 s.secs]
structure Out where
 rule : Int
 mover : Int
 ado : Bool
def Out.cells (o : Out) : List Value := [.int .i64 o.rule, .int .i64 o.mover, .bool o.ado]
def ruleB (r : Rul) : Bool := inB r.id 1 20 && (wordB r.name && (inB r.rank 0 9 && inB r.need 1 3))
def ruleStep (xs : List Rul) : Nat → Bool
 | 0 => match xs[0]? with | some x => ruleB x | none => true
 | j + 1 => match xs[j]?, xs[j+1]? with | some y, some x => ruleB x && (decide (y.id < x.id) && !(xs.take (j + 1)).any (fun z => z.name.toList == x.name.toList)) | _, _ => true
def rulesB (xs : List Rul) : Bool := allTo (ruleStep xs) xs.length && decide (xs.length ≤ 8)
theorem isValidRule_is (r : Rul) (v : Bool) (hv : ruleB r = v) (w : World) : Calls Tryz.prog 129 #[.agg #[.int .i64 r.id, .string r.name, .int .i64 r.rank, .bool r.second, .bool r.debate, .bool r.amend, .int .i64 r.need]] w fun e w' => e = .returned (.bool v) ∧ Below w.heap.size w w' := by
 subst hv
 obtain ⟨id, nm, rk, s, d, a, nd, hs⟩ := r
 go_enter Tryz.func129, Tryz.ntmps129
 go_wp2_with (first | (go_at_call 118; refine (inside_is _ _ _ _ rfl _).mono ?_; rintro e w' ⟨rfl, rfl⟩) | (go_at_call 186; refine (isWord_is _ hs _ rfl _).mono ?_; rintro e w' ⟨rfl, rfl⟩) | (go_at_call 59; refine (isNeed_is _ _ rfl _).mono ?_; rintro e w' ⟨rfl, rfl⟩))
 all_goals go_ret
 all_goals exact ⟨by simp [ruleB, *], bl1 _ _⟩
theorem l2Single_is (r : Rul) (v : Bool) (hv : ruleB r = v) (w : World) : Calls Tryz.prog 132 #[.agg #[.int .i64 r.id, .string r.name, .int .i64 r.rank, .bool r.second, .bool r.debate, .bool r.amend, .int .i64 r.need]] w fun e w' => e = .returned (.bool v) ∧ Below w.heap.size w w' := by
 subst hv
 obtain ⟨id, nm, rk, s, d, a, nd, hs⟩ := r
 go_enter Tryz.func132, Tryz.ntmps132
 go_wp2_with (first | (go_at_call 136; refine (l1In_is _ _ _ _ rfl _).mono ?_; rintro e w' ⟨rfl, rfl⟩) | (go_at_call 187; refine (l2Word_is _ hs _ rfl _).mono ?_; rintro e w' ⟨rfl, rfl⟩))
 all_goals go_ret
 all_goals exact ⟨by simp [ruleB, *], bl1 _ _⟩
theorem zb120 {p : Prop} (h : p := by
 go_wp2
 go_roundw
 case rel => exact ⟨k + 1, by omega, by go_num, allTo_go HL.out (by simp [atB, HX.out, hp]), bth hb hb'⟩
 case measure => simp [intOf]; omega) : p := h
theorem zb153 {p : Prop} (h : p := by
 go_wp2
 go_ret
 exact ⟨ret_int (idxB_found hlt HL.out (by simp [atB, HX.out, hp])).symm, bth hb hb'⟩) : p := h
theorem indexFunc_Rul (A : Option Addr) (c : Nat) (xs : List Rul) (hn : xs.length ≤ 1048576) (f : FuncId) (cv : Array Value) (hcall : ∀ args W, (callFunc f args).run Tryz.prog W = .ok (.enter f args) W) (p : Rul → Bool) (v : Int) (hv : idxB p xs = v) (w : World) (hR : Rds 7 Rul.cells w A xs)
  (hf : ∀ x, x ∈ xs → ∀ W, Below w.heap.size w W → Calls Tryz.prog f (#[.agg #[.int .i64 x.id, .string x.name, .int .i64 x.rank, .bool x.second, .bool x.debate, .bool x.amend, .int .i64 x.need]] ++ cv) W fun e w' => e = .returned (.bool (p x)) ∧ Below W.heap.size W w') :
 Calls Tryz.prog 123 #[.slice A xs.length c, .func (.func f) #[] cv] w fun e w' => e = .returned (.int .i64 v) ∧ Below w.heap.size w w' := by
 subst hv
 have HF := lh hf; clear hf
 go_enter Tryz.func123, Tryz.ntmps123
 go_wp2
 go_loopw [8] (fun i wr => ∃ k : Nat, k ≤ xs.length ∧ i = .int .i64 k ∧ allTo (fun i => !atB p xs i) k = true ∧ Below w.heap.size w wr) (fun i _ => xs.length - (intOf i).toNat)
 case atStart => exact ⟨0, Nat.zero_le _, rfl, rfl, Below.refl _ _⟩
 case round =>
  obtain ⟨k, hk, rfl, hl, hb⟩ := hrel
  have HL := lh hl; clear hl
  by_cases hlt : k < xs.length
  ·obtain ⟨b, off, x, rfl, hbl, hx, hcx⟩ := hR.at_ hb hlt
   have HF' := lh (HF.out x (List.mem_of_getElem? hx))
   obtain ⟨rid, rnm, rrk, rse, rde, ram, rnd, rhs⟩ := x
   have f0 := hcx 0 _ rfl; have f1 := hcx 1 _ rfl; have f2 := hcx 2 _ rfl; have f3 := hcx 3 _ rfl; have f4 := hcx 4 _ rfl; have f5 := hcx 5 _ rfl; have f6 := hcx 6 _ rfl
   simp only [Nat.add_zero] at f0
   have g0 := f0 (Kin.self _); have g1 := f1 (Kin.self _); have g2 := f2 (Kin.self _); have g3 := f3 (Kin.self _); have g4 := f4 (Kin.self _); have g5 := f5 (Kin.self _); have g6 := f6 (Kin.self _)
   simp only [Kin.self] at g0
   simp only [Kin.self] at g1
   simp only [Kin.self] at g2
   simp only [Kin.self] at g3
   simp only [Kin.self] at g4
   simp only [Kin.self] at g5
   simp only [Kin.self] at g6
   have HX := lh hx; clear hx hcx
   go_wp2_with fail
   refine (HF'.out _ hb).mono ?_
   rintro e w' ⟨rfl, hb'⟩
   cases hp : p ⟨rid, rnm, rrk, rse, rde, ram, rnd, rhs⟩
   ·exact zb120
   ·exact zb153
  ·exact zb155
theorem containsFunc_Rul (A : Option Addr) (c : Nat) (xs : List Rul) (hn : xs.length ≤ 1048576) (f : FuncId) (cv : Array Value) (hcall : ∀ args W, (callFunc f args).run Tryz.prog W = .ok (.enter f args) W) (p : Rul → Bool) (v : Bool) (hv : xs.any p = v) (w : World) (hR : Rds 7 Rul.cells w A xs)
  (hf : ∀ x, x ∈ xs → ∀ W, Below w.heap.size w W → Calls Tryz.prog f (#[.agg #[.int .i64 x.id, .string x.name, .int .i64 x.rank, .bool x.second, .bool x.debate, .bool x.amend, .int .i64 x.need]] ++ cv) W fun e w' => e = .returned (.bool (p x)) ∧ Below W.heap.size W w') :
 Calls Tryz.prog 130 #[.slice A xs.length c, .func (.func f) #[] cv] w fun e w' => e = .returned (.bool v) ∧ Below w.heap.size w w' := by
 subst hv
 have HF := lh hf; clear hf; have hg := idxB_ge p xs; have HG := lh hg; clear hg
 go_enter Tryz.func130, Tryz.ntmps130
 go_wp2_with fail
 refine (indexFunc_Rul A c xs hn f cv hcall p _ rfl _ hR HF.out).mono ?_
 rintro e w' ⟨rfl, hb⟩
 go_wp2
 go_ret
 exact ⟨ret_bool HG.out, hb⟩
theorem ruleIdxF_is (id : Int) (g : Nat) (x : Rul) (W : World) (hg : W.cell? ⟨g, 0, none⟩ = some (.int .i64 id)) (hl : g < W.heap.size) :
 Calls Tryz.prog 124 (#[.agg #[.int .i64 x.id, .string x.name, .int .i64 x.rank, .bool x.second, .bool x.debate, .bool x.amend, .int .i64 x.need]] ++ #[.pointer (some ⟨g, 0, none⟩)]) W fun e w' => e = .returned (.bool (x.id == id)) ∧ Below W.heap.size W w' := by
 cases hb : x.id == id
 all_goals
  go_enter Tryz.func124, Tryz.ntmps124
  go_wp2
  go_ret
  exact ⟨rfl, bl1 _ _⟩
theorem ruleIndex_is (A : Option Addr) (c : Nat) (xs : List Rul) (hn : xs.length ≤ 1048576) (id : Int) (v : Int) (hv : idxB (fun r => r.id == id) xs = v) (w : World) (hR : Rds 7 Rul.cells w A xs) :
 Calls Tryz.prog 56 #[.slice A xs.length c, .int .i64 id] w fun e w' => e = .returned (.int .i64 v) ∧ Below w.heap.size w w' := by
 have hf : ∀ x, x ∈ xs → ∀ W, Below (w.alloc (.cells #[.int .i64 id] 3)).heap.size (w.alloc (.cells #[.int .i64 id] 3)) W → Calls Tryz.prog 124 (#[.agg #[.int .i64 x.id, .string x.name, .int .i64 x.rank, .bool x.second, .bool x.debate, .bool x.amend, .int .i64 x.need]] ++ #[.pointer (some ⟨w.heap.size, 0, none⟩)]) W fun e w' => e = .returned (.bool (x.id == id)) ∧ Below W.heap.size W w' := fun x _ W hW => by
  have hB := Blk.below (Blk.new w 3 #[.int .i64 id]) hW (by simp)
  exact ruleIdxF_is id w.heap.size x W (hB.cell 0) hB.lt
 have hidx := indexFunc_Rul A c xs hn 124 #[.pointer (some ⟨w.heap.size, 0, none⟩)] (run_enter Tryz.func124 (by kernel_rfl) (by kernel_rfl)) (fun r => r.id == id) v hv (w.alloc (.cells #[.int .i64 id] 3)) (hR.below (bl1 _ _)) hf; have HI := lh hidx; clear hidx hf hv
 go_enter Tryz.func56, Tryz.ntmps56
 go_wp2_with fail
 refine HI.out.mono ?_
 rintro e w1 ⟨rfl, hb⟩
 go_wp2
 go_ret
 exact ⟨rfl, bth (bl1 _ _) hb⟩
theorem l2Find_is (A : Option Addr) (c : Nat) (xs : List Rul) (hn : xs.length ≤ 1048576) (id : Int) (v : Int) (hv : idxB (fun r => r.id == id) xs = v) (w : World) (hR : Rds 7 Rul.cells w A xs) :
 Calls Tryz.prog 65 #[.slice A xs.length c, .int .i64 id] w fun e w' => e = .returned (.int .i64 v) ∧ w' = w := by
 subst hv
 go_enter Tryz.func65, Tryz.ntmps65
 go_wp2
 go_loop [5] (fun i => ∃ k : Nat, k ≤ xs.length ∧ i = .int .i64 k ∧ allTo (fun i => !atB (fun r : Rul => r.id == id) xs i) k = true) (fun i => xs.length - (intOf i).toNat)
 case atStart => exact ⟨0, Nat.zero_le _, rfl, rfl⟩
 case round =>
  obtain ⟨k, hk, rfl, hl⟩ := hrel
  have HL := lh hl; clear hl
  by_cases hlt : k < xs.length
  ·obtain ⟨b, off, x, rfl, hbl, hx, hcx⟩ := hR.at_ (Below.refl _ _) hlt
   obtain ⟨xid, nm, rk, s, d, a, nd, hs⟩ := x
   have g0 := hcx 0 _ rfl (Kin.self _)
   simp only [Nat.add_zero, Kin.self] at g0
   have HX := lh hx; clear hx hcx
   by_cases he : xid = id
   ·have he' : (xid == id) = true := beq_iff_eq.2 he
    have HE := lh he'
    go_wp2
    go_ret
    exact ⟨ret_int (idxB_found hlt HL.out (by simp [atB, HX.out, HE.out])).symm, rfl⟩
   ·have he' : (xid == id) = false := beq_eq_false_iff_ne.2 he
    go_wp2
    go_round
    case rel => exact ⟨k + 1, by omega, by go_num, allTo_go HL.out (by simp [atB, HX.out, he'])⟩
    case measure => simp [intOf]; omega
  ·obtain rfl : k = xs.length := by omega
   go_wp2
   go_ret
   exact ⟨ret_int (idxB_none HL.out).symm, rfl⟩
open Go.RowKit Go.G9
theorem szRule_is (id : Int) (nm : ByteArray) (rk : Int) (s d a : Bool) (nd l : Int) (hs : nm.size ≤ maxLen) (h0 : 0 ≤ l) (h1 : l ≤ 1048576) (w : World) :
 Calls Tryz.prog 137 #[.agg #[.int .i64 id, .string nm, .int .i64 rk, .bool s, .bool d, .bool a, .int .i64 nd], .int .i64 l] w fun e w' => ∃ r : Int, e = .returned (.int .i64 r) ∧ (-1 ≤ r ∧ r ≤ l) ∧ Below w.heap.size w w' := by
 unfold maxLen at hs
 go_enter Tryz.func137, Tryz.ntmps137
 go_wp2
 all_goals go_ret
 all_goals exact ⟨_, rfl, by constructor <;> omega, bl1 _ _⟩
theorem eqRule_is (id : Int) (nm : ByteArray) (rk : Int) (s d a : Bool) (nd : Int) (w : World) :
 Calls Tryz.prog 145 #[.agg #[.int .i64 id, .string nm, .int .i64 rk, .bool s, .bool d, .bool a, .int .i64 nd], .agg #[.int .i64 id, .string nm, .int .i64 rk, .bool s, .bool d, .bool a, .int .i64 nd]] w fun e w' => e = .returned (.bool true) ∧ Below w.heap.size w w' := by
 go_enter Tryz.func145, Tryz.ntmps145
 go_wp2
 go_ret
 exact ⟨rfl, bl2 _ _ _⟩
theorem toRule_is (id : Int) (nm : ByteArray) (rk : Int) (s d a : Bool) (nd : Int) (w : World) :
 Calls Tryz.prog 140 #[.agg #[.int .i64 id, .string nm, .int .i64 rk, .bool s, .bool d, .bool a, .int .i64 nd]] w fun e w' => e = .returned (.agg #[.int .i64 id, .string nm, .int .i64 rk, .bool s, .bool d, .bool a, .int .i64 nd]) ∧ Below w.heap.size w w' := by
 go_enter Tryz.func140, Tryz.ntmps140
 go_wp2
 exact bodyPost_ret (v := .agg #[.int .i64 id, .string nm, .int .i64 rk, .bool s, .bool d, .bool a, .int .i64 nd]) (by simp [results, Tryz.results140, go_sem]) rfl ⟨rfl, bel⟩
theorem info_Rul : (Tryz.prog.info? 48).map (fun i => (i.zero, i.size, i.bytes)) = some (some (.agg #[.int .i64 0, .string ⟨#[]⟩, .int .i64 0, .bool false, .bool false, .bool false, .int .i64 0]), 7, 48) := by kernel_rfl
theorem szRuleS_is (A : Option Addr) (c : Nat) (xs : List Rul) (hn : xs.length ≤ maxLen) (l : Int) (h00 : 0 ≤ l) (h01 : l ≤ 1048576) (w : World) (hR : Rds 7 Rul.cells w A xs) :
 Calls Tryz.prog 78 #[.slice A xs.length c, .int .i64 l] w fun e w' => ∃ r : Int, e = .returned (.int .i64 r) ∧ -1 ≤ r ∧ r ≤ l ∧ (r < 0 ∨ xs.length ≤ 1048576) ∧ Below w.heap.size w w' := by
 unfold maxLen at hn
 by_cases hl : (xs.length : Int) ≤ l
 ·have hl' : ¬ (l - (xs.length : Int)) < 0 := by omega
  go_enter Tryz.func78, Tryz.ntmps78
  go_wp2
  go_loopw [1, 5] (fun lv i wr => ∃ (k : Nat) (r : Int), k ≤ xs.length ∧ i = .int .i64 k ∧ lv = .int .i64 r ∧ 0 ≤ r ∧ r ≤ l ∧ Below w.heap.size w wr) (fun _ i _ => xs.length - (intOf i).toNat)
  case atStart => exact ⟨0, _, Nat.zero_le _, rfl, rfl, by omega, by omega, Below.refl _ _⟩
  case round =>
   obtain ⟨k, r, hk, rfl, rfl, h0, h1, hb⟩ := hrel
   by_cases hlt : k < xs.length
   ·obtain ⟨b, off, x, rfl, hbl, hx, hcx⟩ := hR.at_ hb hlt
    obtain ⟨id, nm, rk, s, d, a, nd, hs⟩ := x
    have f0 := hcx 0 _ rfl; have f1 := hcx 1 _ rfl; have f2 := hcx 2 _ rfl; have f3 := hcx 3 _ rfl; have f4 := hcx 4 _ rfl; have f5 := hcx 5 _ rfl; have f6 := hcx 6 _ rfl
    simp only [Nat.add_zero] at f0
    have g0 := f0 (Kin.self _); have g1 := f1 (Kin.self _); have g2 := f2 (Kin.self _); have g3 := f3 (Kin.self _); have g4 := f4 (Kin.self _); have g5 := f5 (Kin.self _); have g6 := f6 (Kin.self _)
    simp only [Kin.self] at g0
    simp only [Kin.self] at g1
    simp only [Kin.self] at g2
    simp only [Kin.self] at g3
    simp only [Kin.self] at g4
    simp only [Kin.self] at g5
    simp only [Kin.self] at g6
    clear hx hcx
    go_wp2_with fail
    refine (szRule_is _ _ _ _ _ _ _ _ hs h0 (by omega) _).mono ?_
    rintro e w' ⟨r', rfl, ⟨h2, h3⟩, hb'⟩
    by_cases h4 : r' < 0
    ·go_wp2
     go_ret
     exact ⟨_, rfl, by omega, by omega, .inl (by omega), bth hb hb'⟩
    ·go_wp2
     go_roundw
     case rel => exact ⟨k + 1, r', by omega, by go_num, rfl, by omega, by omega, bth hb hb'⟩
     case measure => simp [intOf]; omega
   ·go_wp2
    go_ret
    exact ⟨_, rfl, by omega, by omega, .inr (by omega), hb⟩
 ·have hl' : (l - (xs.length : Int)) < 0 := by omega
  go_enter Tryz.func78, Tryz.ntmps78
  go_wp2
  go_ret
  exact ⟨_, rfl, by omega, by omega, .inl (by omega), Below.refl _ _⟩
theorem eqRuleS_is (A A' : Option Addr) (c c' : Nat) (xs : List Rul) (hn : xs.length ≤ 1048576) (w : World) (hR : Rds 7 Rul.cells w A xs) (hR' : Rds 7 Rul.cells w A' xs) :
 Calls Tryz.prog 87 #[.slice A xs.length c, .slice A' xs.length c'] w fun e w' => e = .returned (.bool true) ∧ Below w.heap.size w w' := by
 go_enter Tryz.func87, Tryz.ntmps87
 go_wp2
 go_loopw [5] (fun i wr => ∃ (k : Nat), k ≤ xs.length ∧ i = .int .i64 k ∧ Below w.heap.size w wr) (fun i _ => xs.length - (intOf i).toNat)
 case atStart => exact ⟨0, Nat.zero_le _, rfl, Below.refl _ _⟩
 case round =>
  obtain ⟨k, hk, rfl, hb⟩ := hrel
  by_cases hlt : k < xs.length
  ·obtain ⟨b, off, x, rfl, hbl, hx, hcx⟩ := hR.at_ hb hlt
   obtain ⟨b', off', x', rfl, _, hx', hcx'⟩ := hR'.at_ hb hlt
   obtain rfl : x = x' := Option.some.inj (hx.symm.trans hx')
   obtain ⟨id, nm, rk, s, d, a, nd, hs⟩ := x
   have f0 := hcx 0 _ rfl; have f1 := hcx 1 _ rfl; have f2 := hcx 2 _ rfl; have f3 := hcx 3 _ rfl; have f4 := hcx 4 _ rfl; have f5 := hcx 5 _ rfl; have f6 := hcx 6 _ rfl
   simp only [Nat.add_zero] at f0
   have e0 := hcx' 0 _ rfl; have e1 := hcx' 1 _ rfl; have e2 := hcx' 2 _ rfl; have e3 := hcx' 3 _ rfl; have e4 := hcx' 4 _ rfl; have e5 := hcx' 5 _ rfl; have e6 := hcx' 6 _ rfl
   simp only [Nat.add_zero] at e0
   clear hx hcx hx' hcx'
   go_wp2
   refine wp_region_kin (by kernel_rfl) (by kernel_rfl) ?_
   repeat (go_big_quiet_step (((go_at_call 145; exact Kin.call _ (Nat.le_refl _) (eqRule_is _ _ _ _ _ _ _ _)))))
   exact zb124
  ·go_wp2
   go_ret
   exact ⟨rfl, hb⟩
theorem toRuleS_is (A : Option Addr) (c : Nat) (xs : List Rul) (hn : xs.length ≤ 1048576) (w : World) (hR : Rds 7 Rul.cells w A xs) :
 Calls Tryz.prog 82 #[.slice A xs.length c] w fun e w' => ∃ A', e = .returned (.slice A' xs.length xs.length) ∧ OwnV w.heap.size 48 7 Rul.cells w' (.slice A' xs.length xs.length) xs ∧ Below w.heap.size w w' := by
 obtain ⟨i0, hi, hz0, hz1, hz2⟩ := info_parts info_Rul
 have hmk := run_make_rowN (P := Tryz.prog) 24 48 i0 _ Tryz.underlying24 hi hz0 .i64 .i64 xs.length xs.length (Nat.le_refl _) (by rw [hz2]; omega) (by omega)
 rw [hz1] at hmk
 go_enter Tryz.func82, Tryz.ntmps82
 go_wp2
 go_loopw [4] (fun i wr => ∃ (k : Nat) (cs : Array Value), k ≤ xs.length ∧ i = .int .i64 k ∧ Blk wr w.heap.size 48 cs ∧ cs.size = xs.length * 7 ∧ Filled 7 Rul.cells xs k cs ∧ Below w.heap.size w wr) (fun i _ => xs.length - (intOf i).toNat)
 case atStart => exact ⟨0, _, Nat.zero_le _, rfl, Blk.new _ _ _, by simp [madeCells], Filled.zero, bl1 _ _⟩
 case round =>
  obtain ⟨k, cs, hk, rfl, hB, hsz, hF, hb⟩ := hrel
  have HSZ := lh hsz; clear hsz
  by_cases hlt : k < xs.length
  ·obtain ⟨b, off, x, rfl, hbl, hx, hcx⟩ := hR.at_ hb hlt
   obtain ⟨id, nm, rk, s, d, a, nd, hs⟩ := x
   have f0 := hcx 0 _ rfl; have f1 := hcx 1 _ rfl; have f2 := hcx 2 _ rfl; have f3 := hcx 3 _ rfl; have f4 := hcx 4 _ rfl; have f5 := hcx 5 _ rfl; have f6 := hcx 6 _ rfl
   simp only [Nat.add_zero] at f0
   have g0 := f0 (Kin.self _); have g1 := f1 (Kin.self _); have g2 := f2 (Kin.self _); have g3 := f3 (Kin.self _); have g4 := f4 (Kin.self _); have g5 := f5 (Kin.self _); have g6 := f6 (Kin.self _)
   simp only [Kin.self] at g0
   simp only [Kin.self] at g1
   simp only [Kin.self] at g2
   simp only [Kin.self] at g3
   simp only [Kin.self] at g4
   simp only [Kin.self] at g5
   simp only [Kin.self] at g6
   clear hcx; have HX := lh hx; clear hx
   go_wp2_with fail
   refine (toRule_is _ _ _ _ _ _ _ _).mono ?_
   rintro e w' ⟨rfl, hb'⟩
   have hB' := hB.below hb' hB.lt
   obtain ⟨v0, c0⟩ := hB'.some_ (k * 7) (by rw [HSZ.out]; omega)
   have z0 := hB'.frozen (k * 7)
   obtain ⟨v1, c1⟩ := hB'.some_ (k * 7 + 1) (by rw [HSZ.out]; omega)
   have z1 := hB'.frozen (k * 7 + 1)
   obtain ⟨v2, c2⟩ := hB'.some_ (k * 7 + 2) (by rw [HSZ.out]; omega)
   have z2 := hB'.frozen (k * 7 + 2)
   obtain ⟨v3, c3⟩ := hB'.some_ (k * 7 + 3) (by rw [HSZ.out]; omega)
   have z3 := hB'.frozen (k * 7 + 3)
   obtain ⟨v4, c4⟩ := hB'.some_ (k * 7 + 4) (by rw [HSZ.out]; omega)
   have z4 := hB'.frozen (k * 7 + 4)
   obtain ⟨v5, c5⟩ := hB'.some_ (k * 7 + 5) (by rw [HSZ.out]; omega)
   have z5 := hB'.frozen (k * 7 + 5)
   obtain ⟨v6, c6⟩ := hB'.some_ (k * 7 + 6) (by rw [HSZ.out]; omega)
   have z6 := hB'.frozen (k * 7 + 6)
   go_wp2
   go_roundw
   case rel => exact ⟨k + 1, setMany cs (k * 7) (Rul.cells ⟨id, nm, rk, s, d, a, nd, hs⟩), by omega, by go_num, hB'.setMany (k * 7) (Rul.cells ⟨id, nm, rk, s, d, a, nd, hs⟩), by rw [size_setMany, HSZ.out], hF.put HX.out (by rw [HSZ.out]; simp [Rul.cells]; omega), (((((((bth hb hb').setCell (Nat.le_refl _) _).setCell (Nat.le_refl _) _).setCell (Nat.le_refl _) _).setCell (Nat.le_refl _) _).setCell (Nat.le_refl _) _).setCell (Nat.le_refl _) _).setCell (Nat.le_refl _) _⟩
   case measure => simp [intOf]; omega
  ·exact zb125
theorem eqQuestion_is (r m : Int) (s : Bool) (w : World) :
 Calls Tryz.prog 146 #[.agg #[.int .i64 r, .int .i64 m, .bool s], .agg #[.int .i64 r, .int .i64 m, .bool s]] w fun e w' => e = .returned (.bool true) ∧ Below w.heap.size w w' := by
 go_enter Tryz.func146, Tryz.ntmps146
 go_wp2
 go_ret
 exact ⟨rfl, bl2 _ _ _⟩
theorem toQuestion_is (r m : Int) (s : Bool) (w : World) :
 Calls Tryz.prog 141 #[.agg #[.int .i64 r, .int .i64 m, .bool s]] w fun e w' => e = .returned (.agg #[.int .i64 r, .int .i64 m, .bool s]) ∧ Below w.heap.size w w' := by
 go_enter Tryz.func141, Tryz.ntmps141
 go_wp2
 exact bodyPost_ret (v := .agg #[.int .i64 r, .int .i64 m, .bool s]) (by simp [results, Tryz.results141, go_sem]) rfl ⟨rfl, bel⟩
theorem eqShare_is (m t s : Int) (w : World) :
 Calls Tryz.prog 190 #[.agg #[.int .i64 m, .int .i64 t, .int .i64 s], .agg #[.int .i64 m, .int .i64 t, .int .i64 s]] w fun e w' => e = .returned (.bool true) ∧ Below w.heap.size w w' := by
 go_enter Tryz.func190, Tryz.ntmps190
 go_wp2
 go_ret
 exact ⟨rfl, bl2 _ _ _⟩
theorem toShare_is (m t s : Int) (w : World) :
 Calls Tryz.prog 189 #[.agg #[.int .i64 m, .int .i64 t, .int .i64 s]] w fun e w' => e = .returned (.agg #[.int .i64 m, .int .i64 t, .int .i64 s]) ∧ Below w.heap.size w w' := by
 go_enter Tryz.func189, Tryz.ntmps189
 go_wp2
 exact bodyPost_ret (v := .agg #[.int .i64 m, .int .i64 t, .int .i64 s]) (by simp [results, Tryz.results189, go_sem]) rfl ⟨rfl, bel⟩
theorem eqOutcome_is (r m : Int) (s : Bool) (w : World) :
 Calls Tryz.prog 149 #[.agg #[.int .i64 r, .int .i64 m, .bool s], .agg #[.int .i64 r, .int .i64 m, .bool s]] w fun e w' => e = .returned (.bool true) ∧ Below w.heap.size w w' := by
 go_enter Tryz.func149, Tryz.ntmps149
 go_wp2
 go_ret
 exact ⟨rfl, bl2 _ _ _⟩
theorem toOutcome_is (r m : Int) (s : Bool) (w : World) :
 Calls Tryz.prog 144 #[.agg #[.int .i64 r, .int .i64 m, .bool s]] w fun e w' => e = .returned (.agg #[.int .i64 r, .int .i64 m, .bool s]) ∧ Below w.heap.size w w' := by
 go_enter Tryz.func144, Tryz.ntmps144
 go_wp2
 exact bodyPost_ret (v := .agg #[.int .i64 r, .int .i64 m, .bool s]) (by simp [results, Tryz.results144, go_sem]) rfl ⟨rfl, bel⟩
theorem info_Que : (Tryz.prog.info? 46).map (fun i => (i.zero, i.size, i.bytes)) = some (some (.agg #[.int .i64 0, .int .i64 0, .bool false]), 3, 24) := by kernel_rfl
theorem info_Sha : (Tryz.prog.info? 144).map (fun i => (i.zero, i.size, i.bytes)) = some (some (.agg #[.int .i64 0, .int .i64 0, .int .i64 0]), 3, 24) := by kernel_rfl
theorem info_Out : (Tryz.prog.info? 44).map (fun i => (i.zero, i.size, i.bytes)) = some (some (.agg #[.int .i64 0, .int .i64 0, .bool false]), 3, 24) := by kernel_rfl
theorem eqQuestionS_is (A A' : Option Addr) (c c' : Nat) (xs : List Que) (hn : xs.length ≤ 1048576) (w : World) (hR : Rds 3 Que.cells w A xs) (hR' : Rds 3 Que.cells w A' xs) :
 Calls Tryz.prog 88 #[.slice A xs.length c, .slice A' xs.length c'] w fun e w' => e = .returned (.bool true) ∧ Below w.heap.size w w' := by
 go_enter Tryz.func88, Tryz.ntmps88
 go_wp2
 go_loopw [5] (fun i wr => ∃ (k : Nat), k ≤ xs.length ∧ i = .int .i64 k ∧ Below w.heap.size w wr) (fun i _ => xs.length - (intOf i).toNat)
 case atStart => exact ⟨0, Nat.zero_le _, rfl, Below.refl _ _⟩
 case round =>
  obtain ⟨k, hk, rfl, hb⟩ := hrel
  by_cases hlt : k < xs.length
  ·obtain ⟨b, off, x, rfl, hbl, hx, hcx⟩ := hR.at_ hb hlt
   obtain ⟨b', off', x', rfl, _, hx', hcx'⟩ := hR'.at_ hb hlt
   obtain rfl : x = x' := Option.some.inj (hx.symm.trans hx')
   obtain ⟨r, m, s⟩ := x
   have f0 := hcx 0 _ rfl; have f1 := hcx 1 _ rfl; have f2 := hcx 2 _ rfl
   simp only [Nat.add_zero] at f0
   have e0 := hcx' 0 _ rfl; have e1 := hcx' 1 _ rfl; have e2 := hcx' 2 _ rfl
   simp only [Nat.add_zero] at e0
   clear hx hcx hx' hcx'
   go_wp2
   refine wp_region_kin (by kernel_rfl) (by kernel_rfl) ?_
   repeat (go_big_quiet_step (((go_at_call 146; exact Kin.call _ (Nat.le_refl _) (eqQuestion_is _ _ _ _)))))
   exact zb124
  ·go_wp2
   go_ret
   exact ⟨rfl, hb⟩
theorem toQuestionS_is (A : Option Addr) (c : Nat) (xs : List Que) (hn : xs.length ≤ 1048576) (w : World) (hR : Rds 3 Que.cells w A xs) :
 Calls Tryz.prog 83 #[.slice A xs.length c] w fun e w' => ∃ A', e = .returned (.slice A' xs.length xs.length) ∧ OwnV w.heap.size 46 3 Que.cells w' (.slice A' xs.length xs.length) xs ∧ Below w.heap.size w w' := by
 obtain ⟨i0, hi, hz0, hz1, hz2⟩ := info_parts info_Que
 have hmk := run_make_rowN (P := Tryz.prog) 25 46 i0 _ Tryz.underlying25 hi hz0 .i64 .i64 xs.length xs.length (Nat.le_refl _) (by rw [hz2]; omega) (by omega)
 rw [hz1] at hmk
 go_enter Tryz.func83, Tryz.ntmps83
 go_wp2
 go_loopw [4] (fun i wr => ∃ (k : Nat) (cs : Array Value), k ≤ xs.length ∧ i = .int .i64 k ∧ Blk wr w.heap.size 46 cs ∧ cs.size = xs.length * 3 ∧ Filled 3 Que.cells xs k cs ∧ Below w.heap.size w wr) (fun i _ => xs.length - (intOf i).toNat)
 case atStart => exact ⟨0, _, Nat.zero_le _, rfl, Blk.new _ _ _, by simp [madeCells], Filled.zero, bl1 _ _⟩
 case round =>
  obtain ⟨k, cs, hk, rfl, hB, hsz, hF, hb⟩ := hrel
  have HSZ := lh hsz; clear hsz
  by_cases hlt : k < xs.length
  ·obtain ⟨b, off, x, rfl, hbl, hx, hcx⟩ := hR.at_ hb hlt
   obtain ⟨r, m, s⟩ := x
   have f0 := hcx 0 _ rfl; have f1 := hcx 1 _ rfl; have f2 := hcx 2 _ rfl
   simp only [Nat.add_zero] at f0
   have g0 := f0 (Kin.self _); have g1 := f1 (Kin.self _); have g2 := f2 (Kin.self _)
   simp only [Kin.self] at g0
   simp only [Kin.self] at g1
   simp only [Kin.self] at g2
   clear hcx; have HX := lh hx; clear hx
   go_wp2_with fail
   refine (toQuestion_is _ _ _ _).mono ?_
   rintro e w' ⟨rfl, hb'⟩
   have hB' := hB.below hb' hB.lt
   obtain ⟨v0, c0⟩ := hB'.some_ (k * 3) (by rw [HSZ.out]; omega)
   have z0 := hB'.frozen (k * 3)
   obtain ⟨v1, c1⟩ := hB'.some_ (k * 3 + 1) (by rw [HSZ.out]; omega)
   have z1 := hB'.frozen (k * 3 + 1)
   obtain ⟨v2, c2⟩ := hB'.some_ (k * 3 + 2) (by rw [HSZ.out]; omega)
   have z2 := hB'.frozen (k * 3 + 2)
   go_wp2
   go_roundw
   case rel => exact ⟨k + 1, setMany cs (k * 3) (Que.cells ⟨r, m, s⟩), by omega, by go_num, hB'.setMany (k * 3) (Que.cells ⟨r, m, s⟩), by rw [size_setMany, HSZ.out], hF.put HX.out (by rw [HSZ.out]; simp [Que.cells]; omega), (((bth hb hb').setCell (Nat.le_refl _) _).setCell (Nat.le_refl _) _).setCell (Nat.le_refl _) _⟩
   case measure => simp [intOf]; omega
  ·exact zb125
theorem eqShareS_is (A A' : Option Addr) (c c' : Nat) (xs : List Sha) (hn : xs.length ≤ 1048576) (w : World) (hR : Rds 3 Sha.cells w A xs) (hR' : Rds 3 Sha.cells w A' xs) :
 Calls Tryz.prog 148 #[.slice A xs.length c, .slice A' xs.length c'] w fun e w' => e = .returned (.bool true) ∧ Below w.heap.size w w' := by
 go_enter Tryz.func148, Tryz.ntmps148
 go_wp2
 go_loopw [5] (fun i wr => ∃ (k : Nat), k ≤ xs.length ∧ i = .int .i64 k ∧ Below w.heap.size w wr) (fun i _ => xs.length - (intOf i).toNat)
 case atStart => exact ⟨0, Nat.zero_le _, rfl, Below.refl _ _⟩
 case round =>
  obtain ⟨k, hk, rfl, hb⟩ := hrel
  by_cases hlt : k < xs.length
  ·obtain ⟨b, off, x, rfl, hbl, hx, hcx⟩ := hR.at_ hb hlt
   obtain ⟨b', off', x', rfl, _, hx', hcx'⟩ := hR'.at_ hb hlt
   obtain rfl : x = x' := Option.some.inj (hx.symm.trans hx')
   obtain ⟨m, t, s⟩ := x
   have f0 := hcx 0 _ rfl; have f1 := hcx 1 _ rfl; have f2 := hcx 2 _ rfl
   simp only [Nat.add_zero] at f0
   have e0 := hcx' 0 _ rfl; have e1 := hcx' 1 _ rfl; have e2 := hcx' 2 _ rfl
   simp only [Nat.add_zero] at e0
   clear hx hcx hx' hcx'
   go_wp2
   refine wp_region_kin (by kernel_rfl) (by kernel_rfl) ?_
   repeat (go_big_quiet_step (((go_at_call 190; exact Kin.call _ (Nat.le_refl _) (eqShare_is _ _ _ _)))))
   exact zb124
  ·go_wp2
   go_ret
   exact ⟨rfl, hb⟩
theorem toShareS_is (A : Option Addr) (c : Nat) (xs : List Sha) (hn : xs.length ≤ 1048576) (w : World) (hR : Rds 3 Sha.cells w A xs) :
 Calls Tryz.prog 143 #[.slice A xs.length c] w fun e w' => ∃ A', e = .returned (.slice A' xs.length xs.length) ∧ OwnV w.heap.size 144 3 Sha.cells w' (.slice A' xs.length xs.length) xs ∧ Below w.heap.size w w' := by
 obtain ⟨i0, hi, hz0, hz1, hz2⟩ := info_parts info_Sha
 have hmk := run_make_rowN (P := Tryz.prog) 27 144 i0 _ Tryz.underlying27 hi hz0 .i64 .i64 xs.length xs.length (Nat.le_refl _) (by rw [hz2]; omega) (by omega)
 rw [hz1] at hmk
 go_enter Tryz.func143, Tryz.ntmps143
 go_wp2
 go_loopw [4] (fun i wr => ∃ (k : Nat) (cs : Array Value), k ≤ xs.length ∧ i = .int .i64 k ∧ Blk wr w.heap.size 144 cs ∧ cs.size = xs.length * 3 ∧ Filled 3 Sha.cells xs k cs ∧ Below w.heap.size w wr) (fun i _ => xs.length - (intOf i).toNat)
 case atStart => exact ⟨0, _, Nat.zero_le _, rfl, Blk.new _ _ _, by simp [madeCells], Filled.zero, bl1 _ _⟩
 case round =>
  obtain ⟨k, cs, hk, rfl, hB, hsz, hF, hb⟩ := hrel
  have HSZ := lh hsz; clear hsz
  by_cases hlt : k < xs.length
  ·obtain ⟨b, off, x, rfl, hbl, hx, hcx⟩ := hR.at_ hb hlt
   obtain ⟨m, t, s⟩ := x
   have f0 := hcx 0 _ rfl; have f1 := hcx 1 _ rfl; have f2 := hcx 2 _ rfl
   simp only [Nat.add_zero] at f0
   have g0 := f0 (Kin.self _); have g1 := f1 (Kin.self _); have g2 := f2 (Kin.self _)
   simp only [Kin.self] at g0
   simp only [Kin.self] at g1
   simp only [Kin.self] at g2
   clear hcx; have HX := lh hx; clear hx
   go_wp2_with fail
   refine (toShare_is _ _ _ _).mono ?_
   rintro e w' ⟨rfl, hb'⟩
   have hB' := hB.below hb' hB.lt
   obtain ⟨v0, c0⟩ := hB'.some_ (k * 3) (by rw [HSZ.out]; omega)
   have z0 := hB'.frozen (k * 3)
   obtain ⟨v1, c1⟩ := hB'.some_ (k * 3 + 1) (by rw [HSZ.out]; omega)
   have z1 := hB'.frozen (k * 3 + 1)
   obtain ⟨v2, c2⟩ := hB'.some_ (k * 3 + 2) (by rw [HSZ.out]; omega)
   have z2 := hB'.frozen (k * 3 + 2)
   go_wp2
   go_roundw
   case rel => exact ⟨k + 1, setMany cs (k * 3) (Sha.cells ⟨m, t, s⟩), by omega, by go_num, hB'.setMany (k * 3) (Sha.cells ⟨m, t, s⟩), by rw [size_setMany, HSZ.out], hF.put HX.out (by rw [HSZ.out]; simp [Sha.cells]; omega), (((bth hb hb').setCell (Nat.le_refl _) _).setCell (Nat.le_refl _) _).setCell (Nat.le_refl _) _⟩
   case measure => simp [intOf]; omega
  ·exact zb125
theorem eqOutcomeS_is (A A' : Option Addr) (c c' : Nat) (xs : List Out) (hn : xs.length ≤ 1048576) (w : World) (hR : Rds 3 Out.cells w A xs) (hR' : Rds 3 Out.cells w A' xs) :
 Calls Tryz.prog 90 #[.slice A xs.length c, .slice A' xs.length c'] w fun e w' => e = .returned (.bool true) ∧ Below w.heap.size w w' := by
 go_enter Tryz.func90, Tryz.ntmps90
 go_wp2
 go_loopw [5] (fun i wr => ∃ (k : Nat), k ≤ xs.length ∧ i = .int .i64 k ∧ Below w.heap.size w wr) (fun i _ => xs.length - (intOf i).toNat)
 case atStart => exact ⟨0, Nat.zero_le _, rfl, Below.refl _ _⟩
 case round =>
  obtain ⟨k, hk, rfl, hb⟩ := hrel
  by_cases hlt : k < xs.length
  ·obtain ⟨b, off, x, rfl, hbl, hx, hcx⟩ := hR.at_ hb hlt
   obtain ⟨b', off', x', rfl, _, hx', hcx'⟩ := hR'.at_ hb hlt
   obtain rfl : x = x' := Option.some.inj (hx.symm.trans hx')
   obtain ⟨r, m, s⟩ := x
   have f0 := hcx 0 _ rfl; have f1 := hcx 1 _ rfl; have f2 := hcx 2 _ rfl
   simp only [Nat.add_zero] at f0
   have e0 := hcx' 0 _ rfl; have e1 := hcx' 1 _ rfl; have e2 := hcx' 2 _ rfl
   simp only [Nat.add_zero] at e0
   clear hx hcx hx' hcx'
   go_wp2
   refine wp_region_kin (by kernel_rfl) (by kernel_rfl) ?_
   repeat (go_big_quiet_step (((go_at_call 149; exact Kin.call _ (Nat.le_refl _) (eqOutcome_is _ _ _ _)))))
   exact zb124
  ·go_wp2
   go_ret
   exact ⟨rfl, hb⟩
theorem toOutcomeS_is (A : Option Addr) (c : Nat) (xs : List Out) (hn : xs.length ≤ 1048576) (w : World) (hR : Rds 3 Out.cells w A xs) :
 Calls Tryz.prog 85 #[.slice A xs.length c] w fun e w' => ∃ A', e = .returned (.slice A' xs.length xs.length) ∧ OwnV w.heap.size 44 3 Out.cells w' (.slice A' xs.length xs.length) xs ∧ Below w.heap.size w w' := by
 obtain ⟨i0, hi, hz0, hz1, hz2⟩ := info_parts info_Out
 have hmk := run_make_rowN (P := Tryz.prog) 30 44 i0 _ Tryz.underlying30 hi hz0 .i64 .i64 xs.length xs.length (Nat.le_refl _) (by rw [hz2]; omega) (by omega)
 rw [hz1] at hmk
 go_enter Tryz.func85, Tryz.ntmps85
 go_wp2
 go_loopw [4] (fun i wr => ∃ (k : Nat) (cs : Array Value), k ≤ xs.length ∧ i = .int .i64 k ∧ Blk wr w.heap.size 44 cs ∧ cs.size = xs.length * 3 ∧ Filled 3 Out.cells xs k cs ∧ Below w.heap.size w wr) (fun i _ => xs.length - (intOf i).toNat)
 case atStart => exact ⟨0, _, Nat.zero_le _, rfl, Blk.new _ _ _, by simp [madeCells], Filled.zero, bl1 _ _⟩
 case round =>
  obtain ⟨k, cs, hk, rfl, hB, hsz, hF, hb⟩ := hrel
  have HSZ := lh hsz; clear hsz
  by_cases hlt : k < xs.length
  ·obtain ⟨b, off, x, rfl, hbl, hx, hcx⟩ := hR.at_ hb hlt
   obtain ⟨r, m, s⟩ := x
   have f0 := hcx 0 _ rfl; have f1 := hcx 1 _ rfl; have f2 := hcx 2 _ rfl
   simp only [Nat.add_zero] at f0
   have g0 := f0 (Kin.self _); have g1 := f1 (Kin.self _); have g2 := f2 (Kin.self _)
   simp only [Kin.self] at g0
   simp only [Kin.self] at g1
   simp only [Kin.self] at g2
   clear hcx; have HX := lh hx; clear hx
   go_wp2_with fail
   refine (toOutcome_is _ _ _ _).mono ?_
   rintro e w' ⟨rfl, hb'⟩
   have hB' := hB.below hb' hB.lt
   obtain ⟨v0, c0⟩ := hB'.some_ (k * 3) (by rw [HSZ.out]; omega)
   have z0 := hB'.frozen (k * 3)
   obtain ⟨v1, c1⟩ := hB'.some_ (k * 3 + 1) (by rw [HSZ.out]; omega)
   have z1 := hB'.frozen (k * 3 + 1)
   obtain ⟨v2, c2⟩ := hB'.some_ (k * 3 + 2) (by rw [HSZ.out]; omega)
   have z2 := hB'.frozen (k * 3 + 2)
   go_wp2
   go_roundw
   case rel => exact ⟨k + 1, setMany cs (k * 3) (Out.cells ⟨r, m, s⟩), by omega, by go_num, hB'.setMany (k * 3) (Out.cells ⟨r, m, s⟩), by rw [size_setMany, HSZ.out], hF.put HX.out (by rw [HSZ.out]; simp [Out.cells]; omega), (((bth hb hb').setCell (Nat.le_refl _) _).setCell (Nat.le_refl _) _).setCell (Nat.le_refl _) _⟩
   case measure => simp [intOf]; omega
  ·exact zb125
theorem szQuestionS_is (A : Option Addr) (c : Nat) (xs : List Que) (hn : xs.length ≤ maxLen) (l : Int) (h00 : 0 ≤ l) (h01 : l ≤ 1048576) (w : World) :
 Calls Tryz.prog 79 #[.slice A xs.length c, .int .i64 l] w fun e w' => ∃ r : Int, e = .returned (.int .i64 r) ∧ -1 ≤ r ∧ r ≤ l ∧ (r < 0 ∨ xs.length ≤ 1048576) ∧ Below w.heap.size w w' := by
 unfold maxLen at hn
 by_cases hl : (xs.length : Int) ≤ l
 ·have hl' : ¬ (l - (xs.length : Int)) < 0 := by omega
  go_enter Tryz.func79, Tryz.ntmps79
  go_wp2
  go_ret
  exact ⟨_, rfl, by omega, by omega, .inr (by omega), Below.refl _ _⟩
 ·have hl' : (l - (xs.length : Int)) < 0 := by omega
  go_enter Tryz.func79, Tryz.ntmps79
  go_wp2
  go_ret
  exact ⟨_, rfl, by omega, by omega, .inl (by omega), Below.refl _ _⟩
theorem szShareS_is (A : Option Addr) (c : Nat) (xs : List Sha) (hn : xs.length ≤ maxLen) (l : Int) (h00 : 0 ≤ l) (h01 : l ≤ 1048576) (w : World) :
 Calls Tryz.prog 139 #[.slice A xs.length c, .int .i64 l] w fun e w' => ∃ r : Int, e = .returned (.int .i64 r) ∧ -1 ≤ r ∧ r ≤ l ∧ (r < 0 ∨ xs.length ≤ 1048576) ∧ Below w.heap.size w w' := by
 unfold maxLen at hn
 by_cases hl : (xs.length : Int) ≤ l
 ·have hl' : ¬ (l - (xs.length : Int)) < 0 := by omega
  go_enter Tryz.func139, Tryz.ntmps139
  go_wp2
  go_ret
  exact ⟨_, rfl, by omega, by omega, .inr (by omega), Below.refl _ _⟩
 ·have hl' : (l - (xs.length : Int)) < 0 := by omega
  go_enter Tryz.func139, Tryz.ntmps139
  go_wp2
  go_ret
  exact ⟨_, rfl, by omega, by omega, .inl (by omega), Below.refl _ _⟩
theorem szOutcomeS_is (A : Option Addr) (c : Nat) (xs : List Out) (hn : xs.length ≤ maxLen) (l : Int) (h00 : 0 ≤ l) (h01 : l ≤ 1048576) (w : World) :
 Calls Tryz.prog 81 #[.slice A xs.length c, .int .i64 l] w fun e w' => ∃ r : Int, e = .returned (.int .i64 r) ∧ -1 ≤ r ∧ r ≤ l ∧ (r < 0 ∨ xs.length ≤ 1048576) ∧ Below w.heap.size w w' := by
 unfold maxLen at hn
 by_cases hl : (xs.length : Int) ≤ l
 ·have hl' : ¬ (l - (xs.length : Int)) < 0 := by omega
  go_enter Tryz.func81, Tryz.ntmps81
  go_wp2
  go_ret
  exact ⟨_, rfl, by omega, by omega, .inr (by omega), Below.refl _ _⟩
 ·have hl' : (l - (xs.length : Int)) < 0 := by omega
  go_enter Tryz.func81, Tryz.ntmps81
  go_wp2
  go_ret
  exact ⟨_, rfl, by omega, by omega, .inl (by omega), Below.refl _ _⟩
end Go.Proofs.YtjimibkgocieoaaGreat
