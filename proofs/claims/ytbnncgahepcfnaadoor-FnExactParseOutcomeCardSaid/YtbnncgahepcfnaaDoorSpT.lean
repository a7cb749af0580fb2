/- A text split at a byte by Go's library: it is the plain split. -/
import Derived.Test.YtbnncgahepcfnaaDoorSpl
import Derived.Test.YtbnncgahepcfnaaDoorShelf
import Derived.Lib.Split
import Derived.Lib.IndexBytes
namespace Go.G9
open Go.RowKit
theorem cut_at (c : UInt8) : ∀ l : List UInt8, (∀ x ∈ l, (x == c) = false) ∨ ∃ u v, l = u ++ c :: v ∧ ∀ x ∈ u, (x == c) = false
  | [] => .inl (by simp)
  | y :: l => by
    cases hy : y == c
    · rcases cut_at c l with h | ⟨u, v, e, h⟩
      · left; intro x hx
        rcases List.mem_cons.1 hx with rfl | hx
        · exact hy
        · exact h x hx
      · right
        exact ⟨y :: u, v, by rw [e]; rfl, fun x hx => by
          rcases List.mem_cons.1 hx with rfl | hx
          · exact hy
          · exact h x hx⟩
    · right
      have : y = c := by simpa using hy
      exact ⟨[], l, by rw [this]; rfl, by simp⟩
theorem ix_none {c : UInt8} : ∀ {l : List UInt8}, (∀ x ∈ l, (x == c) = false) → Lib.indexByte l c = -1
  | [], _ => rfl
  | y :: l, h => by
    have ih := ix_none (l := l) (fun x hx => h x (by simp [hx]))
    simp [Lib.indexByte, h y (by simp), ih]
theorem ix_app {c : UInt8} : ∀ {u v : List UInt8}, (∀ x ∈ u, (x == c) = false) → Lib.indexByte (u ++ c :: v) c = (u.length : Int)
  | [], v, _ => by simp [Lib.indexByte]
  | y :: u, v, h => by
    have ih := ix_app (u := u) (v := v) (fun x hx => h x (by simp [hx]))
    have hne : ((u.length : Int) == -1) = false := by rw [beq_eq_false_iff_ne]; omega
    simp only [List.cons_append, Lib.indexByte, h y (by simp), ih, hne, List.length_cons]
    simp
theorem split_spl (c : UInt8) (l : List UInt8) : Lib.splitK [c] 0 (Lib.count l [c]) l = spl c l := by
  rcases cut_at c l with h | ⟨u, v, e, h⟩
  · have hi : Lib.index l [c] = -1 := by rw [Lib.index_one, ix_none h]
    rw [Lib.count_miss hi, spl_none h]; rfl
  · have hi : Lib.index l [c] = (u.length : Nat) := by rw [Lib.index_one, e, ix_app h]
    have hm : ¬ (Lib.index l [c] == -1) = true := fun q => by have := beq_iff_eq.1 q; omega
    have hd : l.drop (u.length + [c].length) = v := by
      rw [e]; simp [List.drop_append]
    have ht : l.take (u.length + 0) = u := by rw [e]; simp
    rw [Lib.count_hit (by simp) hi, hd, Nat.add_comm 1, Lib.splitK, if_neg hm]
    have hn : (Lib.index l [c]).toNat = u.length := by omega
    rw [hn, hd, ht, split_spl c v, e, spl_sep h]
termination_by l.length
decreasing_by rw [e]; simp; omega
theorem splitB_spl (c : UInt8) (s : ByteArray) : Lib.splitB ⟨#[c]⟩ 0 (Lib.countB s ⟨#[c]⟩) s = (spl c s.data.toList).map bz := by
  have h := Lib.splitB_data ⟨#[c]⟩ 0 (Lib.countB s ⟨#[c]⟩) s
  have h2 : Lib.splitK (⟨#[c]⟩ : ByteArray).data.toList 0 (Lib.countB s ⟨#[c]⟩) s.data.toList = spl c s.data.toList := split_spl c s.data.toList
  rw [h2] at h
  rw [← h, List.map_map]
  conv => lhs; rw [← List.map_id (Lib.splitB ⟨#[c]⟩ 0 (Lib.countB s ⟨#[c]⟩) s)]
  exact List.map_congr_left fun x _ => (bz_data x).symm
end Go.G9
namespace Go.Proofs.YtbnncgahepcfnaaDoor
open Go.RowKit Go.G9
def Mxl (w : World) : Prop := 1 < w.heap.size ∧ ∃ m : Int, w.cell? ⟨1, 0, none⟩ = some (.int .i64 m)
theorem Mxl.below {w w' : World} (h : Mxl w) (hb : Below w.heap.size w w') : Mxl w' := by
  obtain ⟨h1, m, h2⟩ := h
  exact ⟨Nat.lt_of_lt_of_le h1 hb.size, m, (hb.cell (p := ⟨1, 0, none⟩) h1).trans h2⟩
theorem iSplit_is (s : ByteArray) (c : UInt8) (hs : s.size ≤ 1048576) (w : World) (hM : Mxl w) : Calls Tryd.prog 70 #[.string s, .string ⟨#[c]⟩] w fun e w' => ∃ A n, e = .returned (.slice A (spB c s).length n) ∧ OwnV w.heap.size 9 1 bC w' (.slice A (spB c s).length n) (spB c s) ∧ Below w.heap.size w w' := by
  obtain ⟨h1, m, h2⟩ := hM
  refine (Tryd.strings_Split s ⟨#[c]⟩ m w (by omega) h2 (Nat.le_refl _)).mono ?_
  rintro e w' ⟨rfl, rfl⟩
  have hsp := splitB_spl c s
  have hlen : Lib.countB s ⟨#[c]⟩ + 1 = (spB c s).length := by
    have := Lib.splitB_all ⟨#[c]⟩ (Nat.le_refl _) 0 (Lib.countB s ⟨#[c]⟩) s rfl
    rw [hsp] at this; exact this.symm
  have hcl : (spB c s).length ≤ maxLen := by
    have := spl_len c s.data.toList
    have h3 : s.data.toList.length = s.size := by simp
    unfold spB maxLen; rw [List.length_map]; omega
  have hO := OwnV.built (B := w.heap.size) (f := bC) w (spB c s) 9 (Nat.le_refl _) hcl bC_len
  have hcells : (spB c s).flatMap bC = (spB c s).map Value.string := by
    generalize spB c s = L
    induction L with
    | nil => rfl
    | cons x L ih => simp [bC, ih]
  rw [hcells] at hO
  rw [hlen]
  refine ⟨some ⟨w.heap.size, 0, none⟩, (spB c s).length, rfl, ?_, bl1 _ _⟩
  rw [hsp]
  exact hO
end Go.Proofs.YtbnncgahepcfnaaDoor
