/- A row of a slice: clearing, room, what lies behind. (Out of XDel.) -/
import Derived.Test.YtkkdegmfmimdgaaMix
import Derived.Test.YtkkdegmfmimdgaaApp
import Derived.Laws.CopyRow
import Derived.Deep.Cut
namespace Go.G9
open Go.RowKit
theorem Blk.setRow {w : World} {g : Nat} {t : TypeId} {cs cs' : Array Value} (h : Blk w g t cs) : Blk (w.setRow g cs') g t cs' := setRow_heap w g cs cs' t (0, 0) h
theorem grown_row {w : World} {g : Nat} {cs' : Array Value} : w.grownBy (w.setRow g cs') (some g) :=
  ⟨rfl, rfl, rfl, by simp, fun i _ hne => by
    unfold World.setRow
    simp only [Array.getElem?_modify]
    rw [if_neg (fun e => hne (by rw [e]))]⟩
/-- append within the room of a block that is known whole. -/
theorem wpList_roomB {P : Program} {w : World} {ops : Array Oper} {rest : List Oper} {o : Oper} {a : Act} {Q : Exit → Act → World → Prop} (hgd : o.guard = none) (s x : Operand) (t : TypeId)
    (ho : o.op = .call { callee := .builtin .append, args := #[s, x], argTypes := #[t, t] })
    (e : TypeId) (i : TypeInfo) (ht : P.underlying t = some (.slice e)) (hi : P.info? e = some i) (g n cap : Nat) (cur : Array Value) (hs : a.eval s = .slice (some ⟨g, 0, none⟩) n cap) (hg : Blk w g e cur)
    (ad : Addr) (m c : Nat) (news : List Value) (hx : a.eval x = .slice (some ad) m c) (hl : news.length = m * i.size) (hnews : ∀ j u, news[j]? = some u → w.cell? (ad.add j) = some u) (h1 : ∀ u ∈ news, u.oneCell' = true)
    (hroom : n + m ≤ cap) (hfit : n * i.size + news.length ≤ cur.size)
    (h : ∀ (W' : World) (cs' : List Value), cs' = cur.toList.take (n * i.size) ++ news ++ cur.toList.drop (n * i.size + news.length) → Blk W' g e cs'.toArray → w.grownBy W' (some g) → wpList P ops Q rest (a.put o.dst (.slice (some ⟨g, 0, none⟩) (n + m) cap)) W') : wpList P ops Q (o :: rest) a w := by
  refine wpList_plain hgd fun _ hK => ?_
  have hr := run_append_room (P := P) w t o.type e i ht hi g n cap cur hg ad m c news hl hnews h1 hroom hfit
  unfold Oper.wp execOp
  simp only [ho, resolve, invoke, builtin, Sem.run_bind, Sem.run_pure, Result.andThen_ok, List.map_toArray, List.map_cons, List.map_nil, hs, hx, hr]
  exact hK _ _ (h _ _ rfl hg.setRow grown_row)
/-- clear of a window of a block that is known whole. -/
theorem run_clearB {P : Program} {w : World} (t ty e : TypeId) (z : Value) (ht : P.underlying t = some (.slice e)) (hv : ∀ w, (zeroValue e).run P w = .ok z w) (h1 : ∀ u ∈ z.cells.toList, u.oneCell' = true) (hz0 : 0 < z.cells.size)
    (g k n : Nat) (cur : List Value) (hn : 0 < n) (hg : Blk w g e cur.toArray) (hfit : k + n * z.cells.size ≤ cur.length) :
    ∃ (zs cs' : List Value), zs.length = n * z.cells.size ∧ cs' = cur.take k ++ zs ++ cur.drop (k + n * z.cells.size) ∧ ∀ c, (Builtin.clear_ #[t] ty #[.slice (some ⟨g, k, none⟩) n c]).run P w = .ok (.tuple #[]) (w.setRow g cs'.toArray) := by
  have hzl : (Builtin.zeroCells z.cells n).toList.length = n * z.cells.size := by simp [Builtin.zeroCells]
  have hz1 : ∀ v ∈ (Builtin.zeroCells z.cells n).toList, v.oneCell' = true := by
    intro v hv'
    simp only [Builtin.zeroCells, Array.toList_map, List.mem_map] at hv'
    obtain ⟨j, _, rfl⟩ := hv'
    have hj : j % z.cells.size < z.cells.size := Nat.mod_lt _ hz0
    rw [getElem!_pos z.cells (j % z.cells.size) hj]
    exact h1 _ (by simp)
  have hst := run_storeCells_at (P := P) g k e (Builtin.zeroCells z.cells n).toList 0 cur.toArray w hg (by rw [hzl]; simp; omega) hz1
  simp only [Nat.add_zero, hzl] at hst
  obtain ⟨m, rfl⟩ : ∃ m, n = m + 1 := ⟨n - 1, by omega⟩
  refine ⟨_, _, hzl, rfl, fun c => ?_⟩
  simp [Builtin.clear_, run_underlying ht, hv, hst]
theorem OwnV.whole {T : Type} {B sz : Nat} {f : T → List Value} {e : TypeId} {w : World} {v : Value} {xs : List T} (hO : OwnV B e sz f w v xs) (hf : ∀ y, (f y).length = sz) (hn : 0 < xs.length) :
    ∃ g cap cs, v = .slice (some ⟨g, 0, none⟩) xs.length cap ∧ B ≤ g ∧ Blk w g e cs ∧ xs.length ≤ cap ∧ cap ≤ maxLen ∧ cs.size = cap * sz ∧ ∀ i x, xs[i]? = some x → ∀ j u, (f x)[j]? = some u → cs[i * sz + j]? = some u := by
  rcases hO.2 with ⟨_, h0⟩ | ⟨g, cap, cur, hv, hB, hh, hnc, hcm, hcs, htake⟩
  · omega
  · refine ⟨g, cap, cur, hv, hB, hh, hnc, hcm, hcs, fun i x hx j u hu => ?_⟩
    have h1 := flat_get hf xs i x hx j u hu
    rw [← htake, List.getElem?_take] at h1
    split at h1
    · simpa using h1
    · cases h1
theorem flat_drop {T : Type} {sz : Nat} {f : T → List Value} (hf : ∀ y, (f y).length = sz) (xs : List T) (k j : Nat) (u : Value) (h : ((xs.drop k).flatMap f)[j]? = some u) : (xs.flatMap f)[k * sz + j]? = some u := by
  obtain ⟨i, j', x, hx, hj, rfl⟩ := flat_inv hf _ _ _ h
  rw [List.getElem?_drop] at hx
  have := flat_get hf xs (k + i) x hx j' u hj
  rwa [Nat.add_mul, Nat.add_assoc] at this
/-- The cells of a row with one element taken out, and the end overwritten. -/
theorem del_cells {T : Type} {sz : Nat} {f : T → List Value} (hf : ∀ y, (f y).length = sz) (hsz : 0 < sz) (xs : List T) (i : Nat) (hi : i < xs.length) (cs : Array Value) (hcs : xs.length * sz ≤ cs.size)
    (hF : ∀ i x, xs[i]? = some x → ∀ j u, (f x)[j]? = some u → cs[i * sz + j]? = some u) (zs : List Value) (hz : zs.length = sz) (cs' cs'' : List Value)
    (h1 : cs' = cs.toList.take (i * sz) ++ (xs.drop (i + 1)).flatMap f ++ cs.toList.drop (i * sz + ((xs.drop (i + 1)).flatMap f).length)) (h2 : cs'' = cs'.take ((xs.length - 1) * sz) ++ zs ++ cs'.drop ((xs.length - 1) * sz + sz)) :
    cs''.length = cs.size ∧ ∀ k x, (xs.eraseIdx i)[k]? = some x → ∀ j u, (f x)[j]? = some u → cs''[k * sz + j]? = some u := by
  have hfl : ((xs.drop (i + 1)).flatMap f).length = (xs.length - (i + 1)) * sz := by rw [flat_len hf]; simp
  have hle : xs.length * sz = i * sz + sz + (xs.length - (i + 1)) * sz := by
    conv => lhs; rw [show xs.length = i + 1 + (xs.length - (i + 1)) by omega, Nat.add_mul, Nat.add_mul, Nat.one_mul]
  have hle2 : (xs.length - 1) * sz = i * sz + (xs.length - (i + 1)) * sz := by
    conv => lhs; rw [show xs.length - 1 = i + (xs.length - (i + 1)) by omega, Nat.add_mul]
  have hl1 : cs'.length = cs.size := by
    rw [h1]; simp only [List.length_append, List.length_take, List.length_drop, Array.length_toList, hfl]; omega
  have hl2 : cs''.length = cs.size := by
    rw [h2]; simp only [List.length_append, List.length_take, List.length_drop, hl1, hz]; omega
  refine ⟨hl2, fun k x hx j u hu => ?_⟩
  have hj : j < sz := by have := hf x; have := (List.getElem?_eq_some_iff.1 hu).1; omega
  have hk : k < xs.length - 1 := by have := (List.getElem?_eq_some_iff.1 hx).1; rw [List.length_eraseIdx] at this; split at this <;> omega
  have hkj : k * sz + j < (xs.length - 1) * sz := by
    have : (k + 1) * sz ≤ (xs.length - 1) * sz := Nat.mul_le_mul_right sz (by omega)
    rw [Nat.add_mul, Nat.one_mul] at this; omega
  have e1 : cs''[k * sz + j]? = cs'[k * sz + j]? := by
    rw [h2, List.append_assoc, List.getElem?_append_left (by rw [List.length_take, hl1]; omega), List.getElem?_take, if_pos hkj]
  rw [e1, h1, List.append_assoc]
  rw [List.getElem?_eraseIdx] at hx
  have hil : (cs.toList.take (i * sz)).length = i * sz := by rw [List.length_take, Array.length_toList]; omega
  split at hx
  · rename_i hki
    have : (k + 1) * sz ≤ i * sz := Nat.mul_le_mul_right sz (by omega)
    rw [Nat.add_mul, Nat.one_mul] at this
    rw [List.getElem?_append_left (by rw [hil]; omega), List.getElem?_take, if_pos (by omega)]
    have := hF k x hx j u hu
    simpa using this
  · rename_i hki
    have hik : i * sz ≤ k * sz := Nat.mul_le_mul_right sz (by omega)
    rw [List.getElem?_append_right (by rw [hil]; omega), hil]
    have h3 : (xs.drop (i + 1))[k - i]? = some x := by rw [List.getElem?_drop, show i + 1 + (k - i) = k + 1 by omega]; exact hx
    have h4 := flat_get hf _ _ _ h3 j u hu
    have e2 : k * sz + j - i * sz = (k - i) * sz + j := by rw [Nat.sub_mul]; omega
    rw [e2, List.getElem?_append_left (List.getElem?_eq_some_iff.1 h4).1]
    exact h4
end Go.G9
