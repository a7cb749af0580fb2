/- append of one element, and where the new slice lies; a slice just built. -/
import Derived.Test.YtbnncgahepcfnaaDoorMk
import Derived.Maps.AppendAt
namespace Go.G9
open Go.RowKit
theorem wpList_app1 {P : Program} {w : World} {ops : Array Oper} {rest : List Oper} {o : Oper} {a : Act} {Q : Exit → Act → World → Prop} (hgd : o.guard = none) (s x : Operand) (t : TypeId)
    (ho : o.op = .call { callee := .builtin .append, args := #[s, x], argTypes := #[t, t] })
    (B : Nat) (e : TypeId) (i : TypeInfo) (z : Value) (sz bytes : Nat) (ht : P.underlying t = some (.slice e)) (hi : P.info? e = some i) (hz : i.zero = some z)
    (hsize : i.size = sz) (hby : i.bytes = bytes) (hzs : z.cells.size = sz) (hsz : 0 < sz) {T : Type} (f : T → List Value) (hf : ∀ y, (f y).length = sz) (hone : ∀ y u, u ∈ f y → u.oneCell' = true)
    (v : Value) (xs : List T) (hs : a.eval s = v) (hown : OwnV B e sz f w v xs) (ad : Addr) (c2 : Nat) (y : T) (hx : a.eval x = .slice (some ad) 1 c2) (hR : Rds sz f w (some ad) [y])
    (h63 : xs.length + 1 ≤ maxLen) (hbytes : (xs.length + 1) * bytes ≤ 140737488355328) (hbase : B ≤ w.heap.size)
    (h : ∀ v' w', OwnV B e sz f w' v' (xs ++ [y]) → w.grownBy w' v.ownBlock → (v'.ownBlock = v.ownBlock ∨ v'.ownBlock = some w.heap.size) → wpList P ops Q rest (a.put o.dst v') w') : wpList P ops Q (o :: rest) a w := by
  refine wpList_append_own_at w hgd s x t ho B e i z sz bytes ht hi hz hsize hby hzs hsz v xs.length (xs.flatMap f) hs hown ad 1 c2 ([y].flatMap f) hx (by rw [flat_len hf]; simp) (fun j u hu => Rds.flat hR hf j u hu)
    (fun u hu => by obtain ⟨y', _, hy⟩ := List.mem_flatMap.1 hu; exact hone y' u hy) h63 hbytes hbase (fun v' w' h1 h2 _ h4 => h v' w' ?_ h2 h4)
  unfold OwnV; rw [List.length_append, List.flatMap_append]; exact h1
/-- A slice that has just been built of its elements. -/
theorem OwnV.built {T : Type} {B sz : Nat} {f : T → List Value} (w : World) (xs : List T) (e : TypeId) (hB : B ≤ w.heap.size) (hm : xs.length ≤ maxLen) (hf : ∀ y, (f y).length = sz) :
    OwnV B e sz f (w.alloc (.cells (xs.flatMap f).toArray e)) (.slice (some ⟨w.heap.size, 0, none⟩) xs.length xs.length) xs :=
  OwnV.ofBlk (Blk.new w e _) hB (Nat.le_refl _) hm (by simp [flat_len hf]) (fun i x hx j u hu => by simpa using flat_get hf xs i x hx j u hu) hf
/-- Two slices of the call's own do not share a block. -/
def Ne2 (u v : Value) : Prop := ∀ k, u.ownBlock = some k → v.ownBlock ≠ some k
theorem Ne2.symm {u v : Value} (h : Ne2 u v) : Ne2 v u := fun k h1 h2 => h k h2 h1
theorem Ne2.step {u u' v : Value} {H : Nat} (h : Ne2 u v) (hv : ∀ k, v.ownBlock = some k → k < H) (ha : u'.ownBlock = u.ownBlock ∨ u'.ownBlock = some H) : Ne2 u' v := fun k h1 h2 => by
  rcases ha with ha | ha
  · exact h k (ha ▸ h1) h2
  · rw [ha] at h1; have := hv k h2; injection h1 with h1; omega
theorem OwnV.ne {T : Type} {B sz : Nat} {e : TypeId} {f : T → List Value} {w w' : World} {u v : Value} {xs : List T} (h : OwnV B e sz f w v xs) (hg : w.grownBy w' u.ownBlock) (hn : Ne2 u v) : OwnV B e sz f w' v xs :=
  h.kept hg (fun k h1 h2 => hn k h2.symm h1)


end Go.G9
