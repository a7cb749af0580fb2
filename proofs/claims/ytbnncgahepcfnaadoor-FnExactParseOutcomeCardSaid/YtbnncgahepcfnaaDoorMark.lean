/- The text that stands for a mark. -/
import Derived.Test.YtbnncgahepcfnaaDoorOwn
import Derived.Test.YtbnncgahepcfnaaDoorStr
import Derived.Lib.SlBytesRow
namespace Go.Proofs.YtbnncgahepcfnaaDoor
open Go.RowKit Go.G9
theorem flat_set {T : Type} {f : T → List Value} {sz : Nat} (hf : ∀ y, (f y).length = sz) : ∀ (xs : List T) (i : Nat) (x y : T) (j : Nat) (u : Value), xs[i]? = some x → f y = (f x).set j u → j < sz → (xs.flatMap f).set (i * sz + j) u = (xs.set i y).flatMap f
  | [], i, x, y, j, u, h, _, _ => by simp at h
  | a :: xs, 0, x, y, j, u, h, hy, hj => by
    simp at h; subst h
    simp only [List.flatMap_cons, List.set_cons_zero, Nat.zero_mul, Nat.zero_add, hy]
    rw [List.set_append_left _ _ (by rw [hf]; exact hj)]
  | a :: xs, i + 1, x, y, j, u, h, hy, hj => by
    have ih := flat_set hf xs i x y j u (by simpa using h) hy hj
    simp only [List.flatMap_cons, List.set_cons_succ]
    rw [List.set_append_right _ _ (by rw [hf, Nat.succ_mul]; omega), hf, show (i + 1) * sz + j - sz = i * sz + j by rw [Nat.succ_mul]; omega, ih]
theorem OwnV.setF {T : Type} {f : T → List Value} {B sz : Nat} {e : TypeId} {w : World} {v : Value} {xs : List T} {g : Nat} (hO : OwnV B e sz f w v xs) (hg : v.ownBlock = some g) (hf : ∀ y, (f y).length = sz) {i j : Nat} {x y : T} {u : Value} (hx : xs[i]? = some x) (hy : f y = (f x).set j u) (hj : j < sz) :
    OwnV B e sz f (w.setCell ⟨g, i * sz + j, none⟩ u) v (xs.set i y) := by
  have h := ownsRow_set (j := i * sz + j) (u := u) hO hg
  rw [flat_set hf xs i x y j u hx hy hj] at h
  unfold OwnV
  rw [List.length_set]
  exact h
def markD (k : Nat) : ByteArray := if _h : k = 0 then ⟨#[]⟩ else markD (k / 10) ++ ⟨#[48 + UInt8.ofNat (k % 10)]⟩
termination_by k
decreasing_by omega
def markS (k : Nat) : ByteArray := ⟨#[109]⟩ ++ markD k
set_option maxRecDepth 100000 in
theorem markText_is (k : Nat) (h0 : 0 < k) (h1 : k ≤ 1000000000) (w : World) : Calls Tryd.prog 80 #[.int .i64 k] w fun e w' => e = .returned (.string (markS k)) ∧ Below w.heap.size w w' := by
  go_enter Tryd.func80, Tryd.ntmps80
  go_wp2
  go_loopw [0, 3] (fun n s wr => ∃ (j : Nat) (t : ByteArray), j ≤ k ∧ n = .int .i64 j ∧ s = .string t ∧ markD k = markD j ++ t ∧ t.size + j ≤ k ∧ Below w.heap.size w wr) (fun n _ _ => (intOf n).toNat)
  case atStart => exact ⟨k, ⟨#[]⟩, Nat.le_refl _, rfl, rfl, by rw [show (⟨#[]⟩ : ByteArray) = ByteArray.empty from rfl, ByteArray.append_empty], Nat.le_of_eq (Nat.zero_add k), Below.refl _ _⟩
  case round =>
    obtain ⟨j, t, hj, rfl, rfl, hm, hs, hb⟩ := hrel
    have HM := Lib.hid hm; clear hm
    by_cases hlt : 0 < j
    · have hc : Lib.Bytes (wr.alloc (.cells #[.int .u8 (48 + (j : Int) % 10)] 5)) wr.heap.size 0 ⟨#[UInt8.ofNat (48 + j % 10)]⟩ := by
        intro i hi
        obtain rfl : i = 0 := by simp [ByteArray.size] at hi; omega
        have hu : (UInt8.ofNat (48 + j % 10)).toNat = 48 + j % 10 := by simp; omega
        show _ = some (Value.int .u8 ((UInt8.ofNat (48 + j % 10)).toNat : Int))
        rw [hu]
        have h := (Blk.new wr 5 #[.int .u8 (48 + (j : Int) % 10)]).cell 0
        refine h.trans ?_
        simp
      have kc := Lib.run_convert_whole (P := Tryd.prog) _ 41 5 9 Tryd.underlying41 Tryd.underlying5 Tryd.underlying9 wr.heap.size 0 ⟨#[UInt8.ofNat (48 + j % 10)]⟩ hc 1
      rw [show (⟨#[UInt8.ofNat (48 + j % 10)]⟩ : ByteArray).size = 1 from rfl] at kc
      clear hc
      go_wp2
      go_roundw
      case rel => exact ⟨j / 10, _, by omega, by go_num, rfl, by rw [HM.out, markD, dif_neg (by omega), ByteArray.append_assoc], by simp [ByteArray.size_append]; show 1 + _ + _ ≤ _; omega, hb.alloc hb.size _⟩
      case measure => simp [intOf]; omega
    · obtain rfl : j = 0 := by omega
      go_wp2
      go_ret
      refine ⟨?_, hb⟩
      show Ending.returned (Value.string (⟨#[109]⟩ ++ t)) = _
      rw [markS, HM.out, markD, dif_pos rfl, show ((⟨#[]⟩ : ByteArray) ++ t) = t from ByteArray.empty_append]
end Go.Proofs.YtbnncgahepcfnaaDoor
