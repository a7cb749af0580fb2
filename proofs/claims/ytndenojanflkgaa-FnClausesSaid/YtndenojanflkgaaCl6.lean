/- append of one element, and where the new slice lies; a slice just built. -/
import Derived.Test.YtndenojanflkgaaCl5
import Derived.Maps.AppendAt
import Derived.Test.YtndenojanflkgaaCl1
import Derived.Laws.CopyRow
import Derived.Deep.Cut
import Derived.Test.YtndenojanflkgaaCl3
import Derived.Test.YtndenojanflkgaaCl0
import Derived.ProofKit
import Derived.Carry
import Derived.Deep.Slices
namespace Go.G9
open Go.RowKit
theorem wpList_app1 {P : Program} {w : World} {ops : Array Oper} {rest : List Oper} {o : Oper} {a : Act} {Q : Exit → Act → World → Prop} (hgd : o.guard = none) (s x : Operand) (t : TypeId)
    (ho : o.op = .call { callee := .builtin .append, args := #[s, x], argTypes := #[t, t] })
    (B : Nat) (e : TypeId) (i : TypeInfo) (z : Value) (sz bytes : Nat) (ht : P.underlying t = some (.slice e)) (hi : P.info? e = some i) (hz : i.zero = some z)
    (hsize : i.size = sz) (hby : i.bytes = bytes) (hzs : z.cells.size = sz) (hsz : 0 < sz) {T : Type} (f : T → List Value) (hf : ∀ y, (f y).length = sz) (hone : ∀ y u, u ∈ f y → u.oneCell' = true)
    (v : Value) (xs : List T) (hs : a.eval s = v) (hown : OwnV B e sz f w v xs) (ad : Addr) (c2 : Nat) (y : T) (hx : a.eval x = .slice (some ad) 1 c2) (hR : Rds sz f w (some ad) [y])
    (h63 : xs.length + 1 ≤ maxLen) (hbytes : (xs.length + 1) * bytes ≤ 140737488355328) (hbase : B ≤ w.heap.size)
    (h : ∀ v' w', OwnV B e sz f w' v' (xs ++ [y]) → w.grownBy w' v.ownBlock → (v'.ownBlock = v.ownBlock ∨ v'.ownBlock = some w.heap.size) → wpList P ops Q rest (a.put o.dst v') w') : wpList P ops Q (o :: rest) a w := by
  refine wpList_append_own_at w hgd s x t ho B e i z sz bytes ht hi hz hsize hby hzs hsz v xs.length (xs.flatMap f) hs hown ad 1 c2 ([y].flatMap f) hx (by rw [flat_len hf]; simp) (fun j u hu => Rds.flat hR hf j u hu)
    (fun u hu => by obtain ⟨y', _, hy⟩ := List.mem_flatMap.1 hu; exact hone y' u hy) h63 hbytes hbase (fun v' w' h1 h2 _ h4 => h v' w' ?_ h2 h4)
  unfold OwnV; rw [List.length_append, List.flatMap_append]; exact h1
/-- A slice that has just been built of its elements. -/
theorem OwnV.built {T : Type} {B sz : Nat} {f : T → List Value} (w : World) (xs : List T) (e : TypeId) (hB : B ≤ w.heap.size) (hm : xs.length ≤ maxLen) (hf : ∀ y, (f y).length = sz) :
    OwnV B e sz f (w.alloc (.cells (xs.flatMap f).toArray e)) (.slice (some ⟨w.heap.size, 0, none⟩) xs.length xs.length) xs :=
  OwnV.ofBlk (Blk.new w e _) hB (Nat.le_refl _) hm (by simp [flat_len hf]) (fun i x hx j u hu => by simpa using flat_get hf xs i x hx j u hu) hf
/-- Two slices of the call's own do not share a block. -/
def Ne2 (u v : Value) : Prop := ∀ k, u.ownBlock = some k → v.ownBlock ≠ some k
theorem Ne2.symm {u v : Value} (h : Ne2 u v) : Ne2 v u := fun k h1 h2 => h k h2 h1
theorem Ne2.step {u u' v : Value} {H : Nat} (h : Ne2 u v) (hv : ∀ k, v.ownBlock = some k → k < H) (ha : u'.ownBlock = u.ownBlock ∨ u'.ownBlock = some H) : Ne2 u' v := fun k h1 h2 => by
  rcases ha with ha | ha
  · exact h k (ha ▸ h1) h2
  · rw [ha] at h1; have := hv k h2; injection h1 with h1; omega
theorem OwnV.ne {T : Type} {B sz : Nat} {e : TypeId} {f : T → List Value} {w w' : World} {u v : Value} {xs : List T} (h : OwnV B e sz f w v xs) (hg : w.grownBy w' u.ownBlock) (hn : Ne2 u v) : OwnV B e sz f w' v xs :=
  h.kept hg (fun k h1 h2 => hn k h2.symm h1)


end Go.G9
/- A row of a slice: clearing, room, what lies behind. (Out of XDel.) -/
namespace Go.G9
open Go.RowKit
theorem Blk.setRow {w : World} {g : Nat} {t : TypeId} {cs cs' : Array Value} (h : Blk w g t cs) : Blk (w.setRow g cs') g t cs' := setRow_heap w g cs cs' t (0, 0) h
theorem grown_row {w : World} {g : Nat} {cs' : Array Value} : w.grownBy (w.setRow g cs') (some g) :=
  ⟨rfl, rfl, rfl, by simp, fun i _ hne => by
    unfold World.setRow
    simp only [Array.getElem?_modify]
    rw [if_neg (fun e => hne (by rw [e]))]⟩
/-- append within the room of a block that is known whole. -/
theorem wpList_roomB {P : Program} {w : World} {ops : Array Oper} {rest : List Oper} {o : Oper} {a : Act} {Q : Exit → Act → World → Prop} (hgd : o.guard = none) (s x : Operand) (t : TypeId)
    (ho : o.op = .call { callee := .builtin .append, args := #[s, x], argTypes := #[t, t] })
    (e : TypeId) (i : TypeInfo) (ht : P.underlying t = some (.slice e)) (hi : P.info? e = some i) (g n cap : Nat) (cur : Array Value) (hs : a.eval s = .slice (some ⟨g, 0, none⟩) n cap) (hg : Blk w g e cur)
    (ad : Addr) (m c : Nat) (news : List Value) (hx : a.eval x = .slice (some ad) m c) (hl : news.length = m * i.size) (hnews : ∀ j u, news[j]? = some u → w.cell? (ad.add j) = some u) (h1 : ∀ u ∈ news, u.oneCell' = true)
    (hroom : n + m ≤ cap) (hfit : n * i.size + news.length ≤ cur.size)
    (h : ∀ (W' : World) (cs' : List Value), cs' = cur.toList.take (n * i.size) ++ news ++ cur.toList.drop (n * i.size + news.length) → Blk W' g e cs'.toArray → w.grownBy W' (some g) → wpList P ops Q rest (a.put o.dst (.slice (some ⟨g, 0, none⟩) (n + m) cap)) W') : wpList P ops Q (o :: rest) a w := by
  refine wpList_plain hgd fun _ hK => ?_
  have hr := run_append_room (P := P) w t o.type e i ht hi g n cap cur hg ad m c news hl hnews h1 hroom hfit
  unfold Oper.wp execOp
  simp only [ho, resolve, invoke, builtin, Sem.run_bind, Sem.run_pure, Result.andThen_ok, List.map_toArray, List.map_cons, List.map_nil, hs, hx, hr]
  exact hK _ _ (h _ _ rfl hg.setRow grown_row)
/-- clear of a window of a block that is known whole. -/
theorem run_clearB {P : Program} {w : World} (t ty e : TypeId) (z : Value) (ht : P.underlying t = some (.slice e)) (hv : ∀ w, (zeroValue e).run P w = .ok z w) (h1 : ∀ u ∈ z.cells.toList, u.oneCell' = true) (hz0 : 0 < z.cells.size)
    (g k n : Nat) (cur : List Value) (hn : 0 < n) (hg : Blk w g e cur.toArray) (hfit : k + n * z.cells.size ≤ cur.length) :
    ∃ (zs cs' : List Value), zs.length = n * z.cells.size ∧ cs' = cur.take k ++ zs ++ cur.drop (k + n * z.cells.size) ∧ ∀ c, (Builtin.clear_ #[t] ty #[.slice (some ⟨g, k, none⟩) n c]).run P w = .ok (.tuple #[]) (w.setRow g cs'.toArray) := by
  have hzl : (Builtin.zeroCells z.cells n).toList.length = n * z.cells.size := by simp [Builtin.zeroCells]
  have hz1 : ∀ v ∈ (Builtin.zeroCells z.cells n).toList, v.oneCell' = true := by
    intro v hv'
    simp only [Builtin.zeroCells, Array.toList_map, List.mem_map] at hv'
    obtain ⟨j, _, rfl⟩ := hv'
    have hj : j % z.cells.size < z.cells.size := Nat.mod_lt _ hz0
    rw [getElem!_pos z.cells (j % z.cells.size) hj]
    exact h1 _ (by simp)
  have hst := run_storeCells_at (P := P) g k e (Builtin.zeroCells z.cells n).toList 0 cur.toArray w hg (by rw [hzl]; simp; omega) hz1
  simp only [Nat.add_zero, hzl] at hst
  obtain ⟨m, rfl⟩ : ∃ m, n = m + 1 := ⟨n - 1, by omega⟩
  refine ⟨_, _, hzl, rfl, fun c => ?_⟩
  simp [Builtin.clear_, run_underlying ht, hv, hst]
theorem OwnV.whole {T : Type} {B sz : Nat} {f : T → List Value} {e : TypeId} {w : World} {v : Value} {xs : List T} (hO : OwnV B e sz f w v xs) (hf : ∀ y, (f y).length = sz) (hn : 0 < xs.length) :
    ∃ g cap cs, v = .slice (some ⟨g, 0, none⟩) xs.length cap ∧ B ≤ g ∧ Blk w g e cs ∧ xs.length ≤ cap ∧ cap ≤ maxLen ∧ cs.size = cap * sz ∧ ∀ i x, xs[i]? = some x → ∀ j u, (f x)[j]? = some u → cs[i * sz + j]? = some u := by
  rcases hO.2 with ⟨_, h0⟩ | ⟨g, cap, cur, hv, hB, hh, hnc, hcm, hcs, htake⟩
  · omega
  · refine ⟨g, cap, cur, hv, hB, hh, hnc, hcm, hcs, fun i x hx j u hu => ?_⟩
    have h1 := flat_get hf xs i x hx j u hu
    rw [← htake, List.getElem?_take] at h1
    split at h1
    · simpa using h1
    · cases h1
theorem flat_drop {T : Type} {sz : Nat} {f : T → List Value} (hf : ∀ y, (f y).length = sz) (xs : List T) (k j : Nat) (u : Value) (h : ((xs.drop k).flatMap f)[j]? = some u) : (xs.flatMap f)[k * sz + j]? = some u := by
  obtain ⟨i, j', x, hx, hj, rfl⟩ := flat_inv hf _ _ _ h
  rw [List.getElem?_drop] at hx
  have := flat_get hf xs (k + i) x hx j' u hj
  rwa [Nat.add_mul, Nat.add_assoc] at this
/-- The cells of a row with one element taken out, and the end overwritten. -/
theorem del_cells {T : Type} {sz : Nat} {f : T → List Value} (hf : ∀ y, (f y).length = sz) (hsz : 0 < sz) (xs : List T) (i : Nat) (hi : i < xs.length) (cs : Array Value) (hcs : xs.length * sz ≤ cs.size)
    (hF : ∀ i x, xs[i]? = some x → ∀ j u, (f x)[j]? = some u → cs[i * sz + j]? = some u) (zs : List Value) (hz : zs.length = sz) (cs' cs'' : List Value)
    (h1 : cs' = cs.toList.take (i * sz) ++ (xs.drop (i + 1)).flatMap f ++ cs.toList.drop (i * sz + ((xs.drop (i + 1)).flatMap f).length)) (h2 : cs'' = cs'.take ((xs.length - 1) * sz) ++ zs ++ cs'.drop ((xs.length - 1) * sz + sz)) :
    cs''.length = cs.size ∧ ∀ k x, (xs.eraseIdx i)[k]? = some x → ∀ j u, (f x)[j]? = some u → cs''[k * sz + j]? = some u := by
  have hfl : ((xs.drop (i + 1)).flatMap f).length = (xs.length - (i + 1)) * sz := by rw [flat_len hf]; simp
  have hle : xs.length * sz = i * sz + sz + (xs.length - (i + 1)) * sz := by
    conv => lhs; rw [show xs.length = i + 1 + (xs.length - (i + 1)) by omega, Nat.add_mul, Nat.add_mul, Nat.one_mul]
  have hle2 : (xs.length - 1) * sz = i * sz + (xs.length - (i + 1)) * sz := by
    conv => lhs; rw [show xs.length - 1 = i + (xs.length - (i + 1)) by omega, Nat.add_mul]
  have hl1 : cs'.length = cs.size := by
    rw [h1]; simp only [List.length_append, List.length_take, List.length_drop, Array.length_toList, hfl]; omega
  have hl2 : cs''.length = cs.size := by
    rw [h2]; simp only [List.length_append, List.length_take, List.length_drop, hl1, hz]; omega
  refine ⟨hl2, fun k x hx j u hu => ?_⟩
  have hj : j < sz := by have := hf x; have := (List.getElem?_eq_some_iff.1 hu).1; omega
  have hk : k < xs.length - 1 := by have := (List.getElem?_eq_some_iff.1 hx).1; rw [List.length_eraseIdx] at this; split at this <;> omega
  have hkj : k * sz + j < (xs.length - 1) * sz := by
    have : (k + 1) * sz ≤ (xs.length - 1) * sz := Nat.mul_le_mul_right sz (by omega)
    rw [Nat.add_mul, Nat.one_mul] at this; omega
  have e1 : cs''[k * sz + j]? = cs'[k * sz + j]? := by
    rw [h2, List.append_assoc, List.getElem?_append_left (by rw [List.length_take, hl1]; omega), List.getElem?_take, if_pos hkj]
  rw [e1, h1, List.append_assoc]
  rw [List.getElem?_eraseIdx] at hx
  have hil : (cs.toList.take (i * sz)).length = i * sz := by rw [List.length_take, Array.length_toList]; omega
  split at hx
  · rename_i hki
    have : (k + 1) * sz ≤ i * sz := Nat.mul_le_mul_right sz (by omega)
    rw [Nat.add_mul, Nat.one_mul] at this
    rw [List.getElem?_append_left (by rw [hil]; omega), List.getElem?_take, if_pos (by omega)]
    have := hF k x hx j u hu
    simpa using this
  · rename_i hki
    have hik : i * sz ≤ k * sz := Nat.mul_le_mul_right sz (by omega)
    rw [List.getElem?_append_right (by rw [hil]; omega), hil]
    have h3 : (xs.drop (i + 1))[k - i]? = some x := by rw [List.getElem?_drop, show i + 1 + (k - i) = k + 1 by omega]; exact hx
    have h4 := flat_get hf _ _ _ h3 j u hu
    have e2 : k * sz + j - i * sz = (k - i) * sz + j := by rw [Nat.sub_mul]; omega
    rw [e2, List.getElem?_append_left (List.getElem?_eq_some_iff.1 h4).1]
    exact h4
end Go.G9
/- append to an empty slice without room: it makes memory, it writes nothing. -/
namespace Go.G9
open Go.RowKit
theorem wpList_appE {P : Program} {w : World} {ops : Array Oper} {rest : List Oper} {o : Oper} {a : Act} {Q : Exit → Act → World → Prop} (hgd : o.guard = none) (s x : Operand) (t : TypeId)
    (ho : o.op = .call { callee := .builtin .append, args := #[s, x], argTypes := #[t, t] })
    (B : Nat) (e : TypeId) (i : TypeInfo) (z : Value) (sz bytes : Nat) (ht : P.underlying t = some (.slice e)) (hi : P.info? e = some i) (hz : i.zero = some z)
    (hsize : i.size = sz) (hby : i.bytes = bytes) (hzs : z.cells.size = sz) (hsz : 0 < sz) {T : Type} (f : T → List Value) (hf : ∀ y, (f y).length = sz) (_hone : ∀ y u, u ∈ f y → u.oneCell' = true)
    (g : Nat) (hs : a.eval s = .slice (some ⟨g, 0, none⟩) 0 0) (hg : Blk w g e #[]) (hBg : B ≤ g) (ad : Addr) (c2 : Nat) (ys : List T) (hx : a.eval x = .slice (some ad) ys.length c2) (hR : Rds sz f w (some ad) ys)
    (h63 : ys.length ≤ maxLen) (hbytes : ys.length * bytes ≤ 140737488355328)
    (h : ∀ g' c' w', OwnV B e sz f w' (.slice (some ⟨g', 0, none⟩) ys.length c') ys → Below w.heap.size w w' → (g' = g ∨ w.heap.size ≤ g') → wpList P ops Q rest (a.put o.dst (.slice (some ⟨g', 0, none⟩) ys.length c')) w') : wpList P ops Q (o :: rest) a w := by
  rcases Nat.eq_zero_or_pos ys.length with h0 | h0
  · have hy : ys = [] := List.length_eq_zero_iff.1 h0
    subst hy
    refine wpList_roomB hgd s x t ho e i ht hi g 0 0 #[] hs hg ad 0 c2 [] hx (by simp) (fun j u hu => by simp at hu) (fun u hu => by simp at hu) (by omega) (by simp) fun W' cs' hcs hb hgr => ?_
    have hcs' : cs' = [] := by rw [hcs]; simp
    subst hcs'
    have hb' : Blk W' g e #[] := hb
    refine h g 0 W' ?_ ⟨hgr.os, hgr.tape, hgr.output, hgr.size, fun k hk => ?_⟩ (.inl rfl)
    · exact OwnV.filled (xs := []) hb' hBg (by simp) (by unfold maxLen; simp) (by simp) hf
    · by_cases hkg : k = g
      · subst hkg; exact Eq.trans hb' (Eq.symm hg)
      · exact hgr.block k hk (fun e => hkg (Option.some.inj e))
  · subst hsize; subst hby
    have hge := grownCap_ge w (0 + ys.length) 0 e
    have hcm := grownCap_le_maxLen w (0 + ys.length) 0 e (by omega)
    have hml := h63
    unfold maxLen at hml
    have hr := run_append_grow (P := P) w t o.type e i z ht hi hz ⟨g, 0, none⟩ 0 0 [] (by simp) (by intro j v hj; simp at hj) ad ys.length c2 (ys.flatMap f) (flat_len hf ys) (fun j u hu => Rds.flat hR hf j u hu)
      (by omega) (by omega) (by rw [Nat.zero_add, nextslicecap_zero h0]; omega)
    refine wpList_plain hgd fun _ hK => ?_
    unfold Oper.wp execOp
    simp only [ho, resolve, invoke, builtin, Sem.run_bind, Sem.run_pure, Result.andThen_ok, List.map_toArray, List.map_cons, List.map_nil, hs, hx, hr]
    refine hK _ _ ?_
    rw [Nat.zero_add]
    rw [Nat.zero_add] at hge hcm
    refine h w.heap.size _ _ ?_ ⟨rfl, rfl, rfl, by simp, fun k hk => (bl1 w.drew _).block k hk⟩ (.inr (Nat.le_refl _))
    refine ⟨flat_len hf ys, .inr ⟨w.heap.size, _, _, rfl, Nat.le_trans hBg (Nat.le_of_lt (Array.getElem?_eq_some_iff.1 hg).1), (Blk.new w.drew _ _), hge, hcm, ?_, ?_⟩⟩
    · simp only [Array.size_append, List.size_toArray, size_zeroCells, hzs, flat_len hf, List.length_nil, Nat.zero_add, ← Nat.add_mul]
      congr 1
      omega
    · simp [flat_len hf]
end Go.G9
/- Results of votes: validity, copies, comparisons. -/
namespace Go.Proofs.Ytndenojanflkgaa
open Go.RowKit Go.G9
structure Res where
  motion : ByteArray
  need : Int
  yes : Int
  no : Int
  abst : Int
  ok : motion.size ≤ maxLen
def Res.cells (r : Res) : List Value := [.string r.motion, .int .i64 r.need, .int .i64 r.yes, .int .i64 r.no, .int .i64 r.abst]
def tallyB (y n a : Int) : Bool := inB y 0 1000 && (inB n 0 1000 && inB a 0 1000)
def resB (r : Res) : Bool := wordB r.motion && (inB r.need 1 3 && tallyB r.yes r.no r.abst)
def reportB (xs : List Res) : Bool := decide (xs.length ≤ 12) && !xs.any (fun r => !resB r)
end Go.Proofs.Ytndenojanflkgaa
/- Decided questions: validity. -/
namespace Go.Proofs.Ytndenojanflkgaa
open Go.RowKit Go.G9
structure Dec where
  id : Int
  day : Int
  need : Int
  yes : List Int
  no : List Int
  done : Bool
def sidesB (ys ns : List Int) : Bool := decide (ys.length ≤ 30) && (decide (ns.length ≤ 30) && (ascB ys 1 99 && (ascB ns 1 99 && !ys.any (hasB ns))))
def decB (d : Dec) : Bool := inB d.id 1 99 && (inB d.day 0 3650 && (inB d.need 1 3 && sidesB d.yes d.no))
end Go.Proofs.Ytndenojanflkgaa
/- Decided questions: validity of a decided question, copies, comparisons. -/
namespace Go.Proofs.Ytndenojanflkgaa
open Go.RowKit Go.G9
theorem Blk.far {w : World} {g : Nat} {t : TypeId} {cs : Array Value} (h : Blk w g t cs) {p : Addr} (hp : g ≠ p.block) (u : Value) : Blk (w.setCell p u) g t cs := (Below.heap_setCell w p u g hp).trans h
theorem OwnV.low {T : Type} {B : Nat} {e : TypeId} {sz : Nat} {f : T → List Value} {w : World} {v : Value} {xs : List T} (h : OwnV B e sz f w v xs) {p : Addr} (hp : p.block < B) {u : Value} : OwnV B e sz f (w.setCell p u) v xs := ownsRow_setCell_below h hp u
end Go.Proofs.Ytndenojanflkgaa
/- From a law's walk to its row: the arguments opened (what a slice, a struct of the input reads as), the row's last step, for every law of this program. -/
namespace Go.G9
open Go.ChangeShapes Go.WideShapes Go.ChangeAt Go.RowKit Go.Deep
section
variable {H : Type} {enc : TypeId × Value → H} {P : Program}
theorem trodAll_below (hl : laidOutB P = true) {W W' : World} (hb : Below W.heap.size W W') : ∀ {ts : List TypeId} {vs : List Value} {ds : List (DataW H)} {ps : List MemPlace},
    (∀ t ∈ ts, P.readableRec t = true ∧ t < P.types.size) → (∀ x ∈ ps, x.block < W.heap.size) → DataW.TrodAll enc P W 0 (fun _ => true) true ts vs ds ps →
    DataW.TrodAll enc P W' 0 (fun b => decide (b < W.heap.size)) true ts vs ds ps
  | [], [], [], _, _, _, h => h
  | t :: ts, v :: vs, d :: ds, ps, ht, hlt, h => by
    obtain ⟨p, q, h1, h2, e⟩ := h
    have ht0 := ht t (List.mem_cons.2 (Or.inl rfl))
    exact ⟨p, q, Below.trod hl ht0.1 ht0.2 h1 hb (fun x hx => hlt x (by rw [e]; exact List.mem_append_left _ hx)),
      trodAll_below hl hb (fun t' h' => ht t' (List.mem_cons.2 (Or.inr h'))) (fun x hx => hlt x (by rw [e]; exact List.mem_append_right _ hx)) h2, e⟩
  | [], [], _ :: _, _, _, _, h => h.elim
  | [], _ :: _, _, _, _, _, h => h.elim
  | _ :: _, [], _, _, _, _, h => h.elim
  | _ :: _, _ :: _, [], _, _, _, h => h.elim
theorem trodAll_len {w : World} {base : Nat} {sp : Nat → Bool} {hd : Bool} : ∀ {ts : List TypeId} {vs : List Value} {ds : List (DataW H)} {ps : List MemPlace}, DataW.TrodAll enc P w base sp hd ts vs ds ps → ds.length = ts.length
  | [], [], [], _, _ => rfl
  | _ :: _, _ :: _, _ :: _, _, h => by obtain ⟨_, _, _, h2, _⟩ := h; simp [trodAll_len h2]
  | [], [], _ :: _, _, h => h.elim
  | [], _ :: _, _, _, h => h.elim
  | _ :: _, [], _, _, h => h.elim
  | _ :: _, _ :: _, [], _, h => h.elim

/-- THE ROW'S LAST STEP, FOR A LAW: it answers true and nothing that was there has turned. -/
theorem law_post {fn : Func} {s : ChangeSpec} {W W' : World} {args : Array Value} {ds gs : List (DataW H)} {before : List MemPlace} {rt : TypeId}
    (hlaid : laidOutB P = true) (hread : ∀ t ∈ fn.params.toList, P.readableRec t = true ∧ t < P.types.size) (hrt : fn.resultTypes = #[rt]) (hbool : P.underlying rt = some .bool) (hvars : s.vars = [])
    (hspec : ∀ l : List (DataW H), l.length = fn.params.toList.length → s.fn H (l ++ []) = { results := [.lit (.bool true)], args := l })
    (hW : DataW.Whole enc P fn.params.toList s.vars false W args.toList ds gs before) (hb : Below W.heap.size W W') : s.post enc P fn false true false false W args (.bool true) W' := by
  have hlt := hW.lt
  have hW' := hW
  obtain ⟨p, q, hA, hV, rfl, hfz, hnd⟩ := hW
  rw [hvars] at hV
  obtain ⟨rfl, rfl⟩ := trodVars_none hV
  have hsp := hspec ds (trodAll_len hA)
  refine ⟨ds, [], p ++ [], [], p, [], hW', ?_, ?_, ?_, hb.frame _, fun h => by cases h⟩
  · rw [hsp, hrt]; exact trodAll_mk1 (shut_bool hbool true)
  · rw [hsp]; exact trodAll_below hlaid hb hread (fun x hx => hlt x (by simpa using hx)) hA
  · rw [hsp, hvars]; rfl

/-- FROM THE WALK TO THE LIFTED CLAIM. -/
theorem law_lift {C : Checked} {os : Os} {f : FuncId} {fn : Func} {s : ChangeSpec} {rt : TypeId} (own : ownKnob C.prog.godebug = none) (started : os.Started) (noInit : C.prog.inits.idxOf? f = none) (hfn : C.prog.funcs[f]? = some fn)
    (witness : ∃ (w : World) (tape : Tape) (i : Input), w.os = os ∧ (w.forCall tape i).Shaped C.prog ∧ i.vars = [] ∧ Input.okWide C.prog (w.forCall tape i) .any w.heap.size f i ∧
      s.pre6 enc C.prog fn [] false (w.forCall tape i).memory i.args ∧ ({} : Assume).holds C.prog (lone (Frame.enter C.prog f i.args .normal) [] (w.forCall tape i)))
    (hlaid : laidOutB C.prog = true) (hread : ∀ t ∈ fn.params.toList, C.prog.readableRec t = true ∧ t < C.prog.types.size) (hrt : fn.resultTypes = #[rt]) (hbool : C.prog.underlying rt = some .bool) (hvars : s.vars = [])
    (hspec : ∀ l : List (DataW H), l.length = fn.params.toList.length → s.fn H (l ++ []) = { results := [.lit (.bool true)], args := l })
    (walk : ∀ (W : World) (base : Nat) (args : Array Value) (ds : List (DataW H)) (p : List MemPlace), (∀ (j : Nat) t v, fn.params[j]? = some t → args[j]? = some v → Value.okWide C.prog W .any base t v) →
      DataW.TrodAll enc C.prog W 0 (fun _ => true) true fn.params.toList args.toList ds p → Calls C.prog f args W fun e W' => e = .returned (.bool true) ∧ Below W.heap.size W W') :
    ReturnsInHanded {} C os f .any (s.pre6 enc C.prog fn [] false) (s.post enc C.prog fn false true false false) := by
  refine returnsInHanded_of_change (C := C) own started noInit hfn witness ?_
  intro W base args ds gs before hval hW _ _
  have hW' := hW
  obtain ⟨p, q, hA, _, _, _, _⟩ := hW
  exact (walk W base args ds p hval hA).mono fun e W' ⟨he, hb⟩ => ⟨_, he, law_post hlaid hread hrt hbool hvars hspec hW' hb⟩

variable {w : World} {base : Nat} {sp : Nat → Bool} {hd : Bool}
/-- A field of a struct that reads. -/
theorem rd_at {fs : Array Field} {xs : List (DataW H × List MemPlace)} {n : Nat} {cs : List Value} (hlen : xs.length = fs.size)
    (hg : ∀ (i : Nat) (f : Field), fs[i]? = some f → DataW.trod enc P w base sp hd n f.type ((cs.drop f.offset).take (P.cellsOf f.type)) = xs[i]?) (i : Nat) (f : Field) (hf : fs[i]? = some f) :
    ∃ y, DataW.trod enc P w base sp hd n f.type ((cs.drop f.offset).take (P.cellsOf f.type)) = some y := by
  have hi : i < xs.length := by have := (Array.getElem?_eq_some_iff.1 hf).1; omega
  exact ⟨xs[i], (hg i f hf).trans (List.getElem?_eq_getElem hi)⟩
theorem rd_sub_at {k : Nat} {fs : Array Field} {xs : List (DataW H × List MemPlace)} {n : Nat} {cs : List Value} (hlen : xs.length = fs.size)
    (hg : ∀ (i : Nat) (f : Field), fs[i]? = some f → DataW.trod enc P w base sp hd n f.type ((cs.drop f.offset).take (P.cellsOf f.type)) = xs[i]?) (i : Nat) (f : Field) (hf : fs[i]? = some f)
    (hk : P.cellsOf f.type = k) : ∃ y, DataW.trod enc P w base sp hd n f.type ((cs.drop f.offset).take k) = some y := by
  obtain ⟨y, h⟩ := rd_at hlen hg i f hf
  rw [hk] at h
  exact ⟨y, h⟩
theorem rd_int_at {k : IntKind} {fs : Array Field} {xs : List (DataW H × List MemPlace)} {n : Nat} {cs : List Value} (hlen : xs.length = fs.size)
    (hg : ∀ (i : Nat) (f : Field), fs[i]? = some f → DataW.trod enc P w base sp hd n f.type ((cs.drop f.offset).take (P.cellsOf f.type)) = xs[i]?) (i : Nat) (f : Field) (hf : fs[i]? = some f)
    (hu : P.underlying f.type = some (.int k)) (h1 : P.cellsOf f.type = 1) : ∃ m : Int, (cs.drop f.offset).take 1 = [.int k m] := by
  obtain ⟨_, h⟩ := rd_at hlen hg i f hf
  rw [h1] at h
  obtain ⟨m, e, _, _⟩ := DataW.trod_int hu h
  exact ⟨m, e⟩
theorem rd_string_at {fs : Array Field} {xs : List (DataW H × List MemPlace)} {n : Nat} {cs : List Value} (hlen : xs.length = fs.size)
    (hg : ∀ (i : Nat) (f : Field), fs[i]? = some f → DataW.trod enc P w base sp hd n f.type ((cs.drop f.offset).take (P.cellsOf f.type)) = xs[i]?) (i : Nat) (f : Field) (hf : fs[i]? = some f)
    (hu : P.underlying f.type = some .string) (h1 : P.cellsOf f.type = 1) : ∃ s : ByteArray, (cs.drop f.offset).take 1 = [.string s] ∧ s.size ≤ maxLen := by
  obtain ⟨_, h⟩ := rd_at hlen hg i f hf
  rw [h1] at h
  obtain ⟨m, e, _, hm⟩ := DataW.trod_string hu h
  exact ⟨m, e, hm⟩
theorem rd_bool_at {fs : Array Field} {xs : List (DataW H × List MemPlace)} {n : Nat} {cs : List Value} (hlen : xs.length = fs.size)
    (hg : ∀ (i : Nat) (f : Field), fs[i]? = some f → DataW.trod enc P w base sp hd n f.type ((cs.drop f.offset).take (P.cellsOf f.type)) = xs[i]?) (i : Nat) (f : Field) (hf : fs[i]? = some f)
    (hu : P.underlying f.type = some .bool) (h1 : P.cellsOf f.type = 1) : ∃ b : Bool, (cs.drop f.offset).take 1 = [.bool b] := by
  obtain ⟨_, h⟩ := rd_at hlen hg i f hf
  rw [h1] at h
  obtain ⟨m, e, _⟩ := DataW.trod_bool hu h
  exact ⟨m, e⟩
theorem spot_of_cell {w : World} {a : Addr} {v : Value} (h : w.cell? a = some v) : a.spot = none := by
  unfold World.cell? at h
  split at h
  · split at h
    · cases h
    · rename_i hs; simpa using hs
  · cases h
/-- A slice that reads, each element as f of a thing of type T; a nil slice is told. -/
theorem rd_slicen {T : Type} (f : T → List Value) (sz : Nat) (hsz : 0 < sz) {t e : TypeId} (ht : P.underlying t = some (.slice e)) (hC : P.cellsOf e = sz)
    (helem : ∀ fuel cs x, DataW.trod enc P w base sp hd fuel e cs = some x → ∃ y : T, cs = f y) {fuel : Nat} {cs : List Value} {x : DataW H × List MemPlace} (h : DataW.trod enc P w base sp hd fuel t cs = some x) :
    ∃ (A : Option Addr) (c : Nat) (xs : List T), cs = [.slice A xs.length c] ∧ xs.length ≤ maxLen ∧ Rds sz f w A xs ∧ (A = none → xs = [] ∧ c = 0) := by
  rcases open_slice ht h with ⟨rfl, _⟩ | ⟨a, len, cap, m, n, D, Pl, rfl, _, hlc, hcm, hm, _, hi⟩
  · exact ⟨none, 0, [], rfl, by simp, Rds.nil, fun _ => ⟨rfl, rfl⟩⟩
  · have hle : len ≤ m := by rw [hm]; split <;> omega
    have hex : ∀ i, i < len → ∃ y : T, w.cells? base (a.add (i * sz)) sz = some (f y) := fun i hil => by
      obtain ⟨cs', hcs, htr⟩ := hi i (by omega)
      obtain ⟨y, rfl⟩ := helem _ _ _ htr
      exact ⟨y, by rw [hC] at hcs; exact hcs⟩
    have hall : ∀ k, k ≤ len → ∃ l : List T, l.length = k ∧ ∀ i y, l[i]? = some y → w.cells? base (a.add (i * sz)) sz = some (f y) := by
      intro k
      induction k with
      | zero => intro _; exact ⟨[], rfl, by simp⟩
      | succ k ih =>
        intro hk
        obtain ⟨l, hll, hlc⟩ := ih (by omega)
        obtain ⟨y, hy⟩ := hex k (by omega)
        refine ⟨l ++ [y], by simp [hll], fun i z hz => ?_⟩
        rw [List.getElem?_append] at hz
        split at hz
        · exact hlc i z hz
        · have h0 : i = k := by have := (List.getElem?_eq_some_iff.1 hz).1; simp at this; omega
          subst h0
          rw [hll] at hz; simp at hz; subst hz; exact hy
    obtain ⟨l, hll, hcell⟩ := hall len (Nat.le_refl _)
    refine ⟨some a, cap, l, by rw [hll], by omega, fun hn => ?_, fun h => by cases h⟩
    have at0 : ∀ i y, l[i]? = some y → ∀ j u, (f y)[j]? = some u → w.cell? ((a.add (i * sz)).add j) = some u := fun i y hy j u hu => by
      obtain ⟨_, hcl, hat⟩ := World.cells?_some (hcell i y hy)
      have hj : j < sz := by rw [← hcl]; exact (List.getElem?_eq_some_iff.1 hu).1
      rw [hat j hj]; exact hu
    obtain ⟨y0, hy0⟩ : ∃ y, l[0]? = some y := ⟨_, List.getElem?_eq_getElem hn⟩
    obtain ⟨_, hcl0, _⟩ := World.cells?_some (hcell 0 y0 hy0)
    have hu0 : (f y0)[0]? = some ((f y0)[0]'(by omega)) := List.getElem?_eq_getElem _
    have c0 := at0 0 y0 hy0 0 _ hu0
    rw [Nat.zero_mul, show (a.add 0).add 0 = a from by simp [Addr.add]] at c0
    have hs := spot_of_cell c0
    obtain ⟨b, off, spot⟩ := a
    simp only at hs; subst hs
    refine ⟨b, off, rfl, World.block_lt_of_cell? w _ c0, fun i x hx j u hu => ?_⟩
    have := at0 i x hx j u hu
    rw [add_add] at this
    rw [← this]
    congr 1
    unfold Addr.add
    split <;> simp_all [Nat.add_assoc]
theorem rd_slice {T : Type} (f : T → List Value) (sz : Nat) (hsz : 0 < sz) {t e : TypeId} (ht : P.underlying t = some (.slice e)) (hC : P.cellsOf e = sz)
    (helem : ∀ fuel cs x, DataW.trod enc P w base sp hd fuel e cs = some x → ∃ y : T, cs = f y) {fuel : Nat} {cs : List Value} {x : DataW H × List MemPlace} (h : DataW.trod enc P w base sp hd fuel t cs = some x) :
    ∃ (A : Option Addr) (c : Nat) (xs : List T), cs = [.slice A xs.length c] ∧ xs.length ≤ maxLen ∧ Rds sz f w A xs := by
  obtain ⟨A, c, xs, h1, h2, h3, _⟩ := rd_slicen f sz hsz ht hC helem h
  exact ⟨A, c, xs, h1, h2, h3⟩
theorem agg_of_list {cs : Array Value} {l : List Value} (h : cs.toList = l) : Value.agg cs = .agg l.toArray := by rw [← h]
end
end Go.G9
