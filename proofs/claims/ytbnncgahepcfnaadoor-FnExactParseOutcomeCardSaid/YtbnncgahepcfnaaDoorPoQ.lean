/- A result read from its line: plain law. -/
import Derived.Test.YtbnncgahepcfnaaDoorPoP
namespace Go.Proofs.YtbnncgahepcfnaaDoor
open Go.RowKit Go.G9
def isR (s : ByteArray) (r : Res) : Prop := resB r = true ∧ r.line = s
def rdI (s : ByteArray) : Int := if rdOk s then rdN s.data.toList else 0
theorem rdOut_I (s : ByteArray) : rdOut s = .tuple #[.int .i64 (rdI s), .bool (rdOk s)] := by
  unfold rdOut rdI; cases rdOk s <;> rfl
theorem rdI_numS {v : Int} (h0 : 0 ≤ v) (h1 : v ≤ 1000) : rdI (numS v) = v ∧ rdOk (numS v) = true := by
  obtain ⟨a, b⟩ := rd_numS v (by omega) (by omega)
  exact ⟨by rw [rdI, if_pos a, b], a⟩
def pv3 (a c e : ByteArray) : Value := .tuple #[.agg #[.int .i64 (rdI a), .int .i64 (rdI c), .int .i64 (rdI e)], .bool (rdOk a && (rdOk c && rdOk e))]
def pvV : List ByteArray → Value
  | [a, _, c] => pv3 a c (⟨#[48]⟩ : ByteArray)
  | a :: _ :: c :: _ :: e :: _ => pv3 a c e
  | _ => .tuple #[.agg #[.int .i64 0, .int .i64 0, .int .i64 0], .bool false]
theorem pvV_form (ws : List ByteArray) : ∃ y n a b, pvV ws = .tuple #[.agg #[.int .i64 y, .int .i64 n, .int .i64 a], .bool b] := by
  unfold pvV; split <;> exact ⟨_, _, _, _, rfl⟩
theorem numS_zero : numS 0 = (⟨#[48]⟩ : ByteArray) := by
  apply ba_ext
  show Lib.itoa 0 = [48]
  unfold Lib.itoa
  rw [if_neg (by omega)]
  exact Lib.decDigits_one (by decide)
theorem cutApp (s : ByteArray) (c : UInt8) {m : Nat} (h : (s ++ ⟨#[c]⟩).size = m + 1) : (s ++ ⟨#[c]⟩).extract 0 m = s := by
  have hm : m = s.size := by
    rw [ByteArray.size_append] at h
    have : (⟨#[c]⟩ : ByteArray).size = 1 := rfl
    omega
  apply ba_ext
  rw [extract_list, app_list, List.drop_zero, hm]
  have h2 : s.data.toList.length = s.size := by simp
  rw [Nat.sub_zero, ← h2, List.take_left]
theorem pv3_num {y n a : Int} (h0 : 0 ≤ y) (h1 : y ≤ 1000) (h2 : 0 ≤ n) (h3 : n ≤ 1000) (h4 : 0 ≤ a) (h5 : a ≤ 1000) : pv3 (numS y) (numS n) (numS a) = .tuple #[.agg #[.int .i64 y, .int .i64 n, .int .i64 a], .bool true] := by
  obtain ⟨a1, a2⟩ := rdI_numS h0 h1
  obtain ⟨b1, b2⟩ := rdI_numS h2 h3
  obtain ⟨c1, c2⟩ := rdI_numS h4 h5
  rw [pv3, a1, a2, b1, b2, c1, c2]; rfl
theorem pvV_votS {y n a : Int} (h0 : 0 ≤ y) (h1 : y ≤ 1000) (h2 : 0 ≤ n) (h3 : n ≤ 1000) (h4 : 0 ≤ a) (h5 : a ≤ 1000) : pvV (spB 32 (votS y n a)) = .tuple #[.agg #[.int .i64 y, .int .i64 n, .int .i64 a], .bool true] := by
  rw [votS_spB y n a h0 h2 h4]
  split
  · exact pv3_num h0 h1 h2 h3 h4 h5
  · obtain rfl : a = 0 := by omega
    have h := pv3_num h0 h1 h2 h3 (Int.le_refl 0) h5
    rw [numS_zero] at h; exact h
def phL : List ByteArray := [⟨#[]⟩, (⟨#[97, 32, 109, 97, 106, 111, 114, 105, 116, 121]⟩ : ByteArray), (⟨#[116, 119, 111, 32, 116, 104, 105, 114, 100, 115]⟩ : ByteArray), (⟨#[97, 108, 108]⟩ : ByteArray)]
theorem idx_phr {n : Int} (h0 : 1 ≤ n) (h1 : n ≤ 3) : Lib.idxOfS phL (phrase n) = n := by
  obtain rfl | rfl | rfl : n = 1 ∨ n = 2 ∨ n = 3 := by omega
  all_goals decide +kernel
def poM (s : ByteArray) : ByteArray := ctA s (⟨#[58, 32]⟩ : ByteArray)
def poU (s : ByteArray) : ByteArray := ctA (ctB s (⟨#[58, 32]⟩ : ByteArray)) (⟨#[44, 32, 110, 101, 101, 100, 115, 32]⟩ : ByteArray)
def poN (s : ByteArray) : ByteArray := ctA (ctB (ctB s (⟨#[58, 32]⟩ : ByteArray)) (⟨#[44, 32, 110, 101, 101, 100, 115, 32]⟩ : ByteArray)) (⟨#[44, 32]⟩ : ByteArray)
theorem po_facts {s : ByteArray} {r : Res} (h : isR s r) : poM s = r.motion ∧ pvV (spB 32 (poU s)) = .tuple #[.agg #[.int .i64 r.yes, .int .i64 r.no, .int .i64 r.abst], .bool true] ∧ Lib.idxOfS phL (poN s) = r.need := by
  obtain ⟨hr, rfl⟩ := h
  obtain ⟨a1, a2, a3, a4, a5, a6, a7, a8⟩ := resB_bd' hr
  obtain ⟨c1, c2, c3⟩ := line_cuts hr
  unfold poM poU poN
  rw [c1, c2, c3, pvV_votS a1 a2 a3 a4 a5 a6, idx_phr a7 a8]
  exact ⟨rfl, rfl, rfl⟩
theorem isR_uniq {s : ByteArray} {r q : Res} (h : isR s r) (k : isR s q) : r = q := by
  obtain ⟨a1, a2, a3⟩ := po_facts h
  obtain ⟨b1, b2, b3⟩ := po_facts k
  rw [a1] at b1; rw [a2] at b2; rw [a3] at b3
  simp only [Value.tuple.injEq, Array.mk.injEq, List.cons.injEq, Value.agg.injEq, Value.int.injEq, true_and, and_true] at b2
  obtain ⟨e1, e2, e3⟩ := b2
  obtain ⟨m, nd, y, n, a, hs⟩ := r; obtain ⟨m', nd', y', n', a', hs'⟩ := q
  simp only at b1 b3 e1 e2 e3
  subst b1 b3 e1 e2 e3; rfl
open Classical in
noncomputable def poO (s : ByteArray) : Option Res := if h : ∃ r, isR s r then some (Classical.choose h) else none
theorem poO_yes {s : ByteArray} {r : Res} (h : isR s r) : poO s = some r := by
  have hx : ∃ n, isR s n := ⟨r, h⟩
  rw [poO, dif_pos hx, isR_uniq (Classical.choose_spec hx) h]
theorem poO_no {s : ByteArray} (h : ¬ ∃ n, isR s n) : poO s = none := by rw [poO, dif_neg h]
theorem poO_is {s : ByteArray} {r : Res} (h : poO s = some r) : isR s r := by
  by_cases hx : ∃ n, isR s n
  · obtain ⟨q, hq⟩ := hx
    rw [poO_yes hq] at h; cases h; exact hq
  · rw [poO_no hx] at h; cases h
def resV : Option Res → Value
  | some r => .tuple #[.agg #[.string r.motion, .int .i64 r.need, .int .i64 r.yes, .int .i64 r.no, .int .i64 r.abst], .bool true]
  | none => .tuple #[.agg #[.string ⟨#[]⟩, .int .i64 0, .int .i64 0, .int .i64 0, .int .i64 0], .bool false]
theorem resV_form (o : Option Res) : ∃ m nd y n a b, resV o = .tuple #[.agg #[.string m, .int .i64 nd, .int .i64 y, .int .i64 n, .int .i64 a], .bool b] := by
  unfold resV; split <;> exact ⟨_, _, _, _, _, _, rfl⟩
/-- The reference's words. -/
theorem po_words {s : ByteArray} {r : Res} (h : isR s r) : s.size ≤ 100 ∧ ∃ p0 p1 p2 w0 w1 w2 w3, spB 44 s = [p0, p1, p2] ∧ 2 ≤ w0.size ∧ (∀ m, w0.size = m + 1 → w0.extract 0 m = r.motion) ∧ rdI w1 = r.yes ∧ rdI w3 = r.no ∧
    ((spB 32 p0 = [w0, w1, w2, w3] ∧ r.abst = 0) ∨ ∃ w4 w5 w6, spB 32 p0 = [w0, w1, w2, w3, w4, w5, w6] ∧ rdI w5 = r.abst) := by
  obtain ⟨hr, rfl⟩ := h
  obtain ⟨a1, a2, a3, a4, a5, a6, a7, a8⟩ := resB_bd' hr
  have hm := wordB_size (resB_word hr)
  refine ⟨line_size100 hr, _, _, _, r.motion ++ (⟨#[58]⟩ : ByteArray), numS r.yes, (⟨#[116, 111]⟩ : ByteArray), numS r.no, line_parts hr, ?_, fun m hm => cutApp _ 58 hm, (rdI_numS a1 a2).1, (rdI_numS a3 a4).1, ?_⟩
  · have : ((⟨#[58]⟩ : ByteArray) : ByteArray).size = 1 := rfl
    rw [ByteArray.size_append]; omega
  · rw [head_words hr, votS_spB _ _ _ a1 a3 a5]
    by_cases h0 : 0 < r.abst
    · rw [if_pos h0]; exact .inr ⟨_, _, _, rfl, (rdI_numS a5 a6).1⟩
    · rw [if_neg h0]; exact .inl ⟨rfl, by omega⟩
end Go.Proofs.YtbnncgahepcfnaaDoor
