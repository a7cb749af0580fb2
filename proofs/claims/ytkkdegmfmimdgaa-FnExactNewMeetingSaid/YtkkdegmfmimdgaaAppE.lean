/- append to an empty slice without room: it makes memory, it writes nothing. -/
import Derived.Test.YtkkdegmfmimdgaaRoom
namespace Go.G9
open Go.RowKit
theorem wpList_appE {P : Program} {w : World} {ops : Array Oper} {rest : List Oper} {o : Oper} {a : Act} {Q : Exit → Act → World → Prop} (hgd : o.guard = none) (s x : Operand) (t : TypeId)
    (ho : o.op = .call { callee := .builtin .append, args := #[s, x], argTypes := #[t, t] })
    (B : Nat) (e : TypeId) (i : TypeInfo) (z : Value) (sz bytes : Nat) (ht : P.underlying t = some (.slice e)) (hi : P.info? e = some i) (hz : i.zero = some z)
    (hsize : i.size = sz) (hby : i.bytes = bytes) (hzs : z.cells.size = sz) (hsz : 0 < sz) {T : Type} (f : T → List Value) (hf : ∀ y, (f y).length = sz) (_hone : ∀ y u, u ∈ f y → u.oneCell' = true)
    (g : Nat) (hs : a.eval s = .slice (some ⟨g, 0, none⟩) 0 0) (hg : Blk w g e #[]) (hBg : B ≤ g) (ad : Addr) (c2 : Nat) (ys : List T) (hx : a.eval x = .slice (some ad) ys.length c2) (hR : Rds sz f w (some ad) ys)
    (h63 : ys.length ≤ maxLen) (hbytes : ys.length * bytes ≤ 140737488355328)
    (h : ∀ g' c' w', OwnV B e sz f w' (.slice (some ⟨g', 0, none⟩) ys.length c') ys → Below w.heap.size w w' → (g' = g ∨ w.heap.size ≤ g') → wpList P ops Q rest (a.put o.dst (.slice (some ⟨g', 0, none⟩) ys.length c')) w') : wpList P ops Q (o :: rest) a w := by
  rcases Nat.eq_zero_or_pos ys.length with h0 | h0
  · have hy : ys = [] := List.length_eq_zero_iff.1 h0
    subst hy
    refine wpList_roomB hgd s x t ho e i ht hi g 0 0 #[] hs hg ad 0 c2 [] hx (by simp) (fun j u hu => by simp at hu) (fun u hu => by simp at hu) (by omega) (by simp) fun W' cs' hcs hb hgr => ?_
    have hcs' : cs' = [] := by rw [hcs]; simp
    subst hcs'
    have hb' : Blk W' g e #[] := hb
    refine h g 0 W' ?_ ⟨hgr.os, hgr.tape, hgr.output, hgr.size, fun k hk => ?_⟩ (.inl rfl)
    · exact OwnV.filled (xs := []) hb' hBg (by simp) (by unfold maxLen; simp) (by simp) hf
    · by_cases hkg : k = g
      · subst hkg; exact Eq.trans hb' (Eq.symm hg)
      · exact hgr.block k hk (fun e => hkg (Option.some.inj e))
  · subst hsize; subst hby
    have hge := grownCap_ge w (0 + ys.length) 0 e
    have hcm := grownCap_le_maxLen w (0 + ys.length) 0 e (by omega)
    have hml := h63
    unfold maxLen at hml
    have hr := run_append_grow (P := P) w t o.type e i z ht hi hz ⟨g, 0, none⟩ 0 0 [] (by simp) (by intro j v hj; simp at hj) ad ys.length c2 (ys.flatMap f) (flat_len hf ys) (fun j u hu => Rds.flat hR hf j u hu)
      (by omega) (by omega) (by rw [Nat.zero_add, nextslicecap_zero h0]; omega)
    refine wpList_plain hgd fun _ hK => ?_
    unfold Oper.wp execOp
    simp only [ho, resolve, invoke, builtin, Sem.run_bind, Sem.run_pure, Result.andThen_ok, List.map_toArray, List.map_cons, List.map_nil, hs, hx, hr]
    refine hK _ _ ?_
    rw [Nat.zero_add]
    rw [Nat.zero_add] at hge hcm
    refine h w.heap.size _ _ ?_ ⟨rfl, rfl, rfl, by simp, fun k hk => (bl1 w.drew _).block k hk⟩ (.inr (Nat.le_refl _))
    refine ⟨flat_len hf ys, .inr ⟨w.heap.size, _, _, rfl, Nat.le_trans hBg (Nat.le_of_lt (Array.getElem?_eq_some_iff.1 hg).1), (Blk.new w.drew _ _), hge, hcm, ?_, ?_⟩⟩
    · simp only [Array.size_append, List.size_toArray, size_zeroCells, hzs, flat_len hf, List.length_nil, Nat.zero_add, ← Nat.add_mul]
      congr 1
      omega
    · simp [flat_len hf]
end Go.G9
