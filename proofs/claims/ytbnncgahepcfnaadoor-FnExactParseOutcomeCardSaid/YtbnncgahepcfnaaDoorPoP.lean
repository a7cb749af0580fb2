/- The words of a result's line: what the cuts and the splits give. -/
import Derived.Test.YtbnncgahepcfnaaDoorSpl
import Derived.Test.YtbnncgahepcfnaaDoorPnQ
import Derived.Test.YtbnncgahepcfnaaDoorTxr
import Derived.Lib.IndexMore
import Derived.Lib.SlicesS
namespace Go.G9
open Go.RowKit
theorem lidx_app {c : UInt8} {tl : List UInt8} : ∀ {u v : List UInt8}, (∀ x ∈ u, (x == c) = false) → Lib.index (u ++ (c :: tl) ++ v) (c :: tl) = (u.length : Int)
  | [], v, _ => by
    have hp : (c :: tl).isPrefixOf (c :: (tl ++ v)) = true := by
      rw [List.isPrefixOf_iff_prefix]; exact ⟨v, by simp⟩
    show Lib.index (c :: (tl ++ v)) (c :: tl) = _
    rw [Lib.index, if_pos hp]; rfl
  | y :: u, v, h => by
    have hy := h y (by simp)
    have ih := lidx_app (tl := tl) (u := u) (v := v) (fun x hx => h x (by simp [hx]))
    have hn : ¬ (c :: tl).isPrefixOf (y :: (u ++ (c :: tl) ++ v)) = true := by
      intro hp
      simp only [List.isPrefixOf, Bool.and_eq_true] at hp
      have := eq_of_beq hp.1
      subst this; simp at hy
    show Lib.index (y :: (u ++ (c :: tl) ++ v)) (c :: tl) = _
    rw [Lib.index, if_neg hn, ih, if_neg (by simp)]
    simp
theorem lcut_app {c : UInt8} {tl u v : List UInt8} (h : ∀ x ∈ u, (x == c) = false) : Lib.cut (u ++ (c :: tl) ++ v) (c :: tl) = (u, v, true) := by
  have hi := lidx_app (tl := tl) (v := v) h
  unfold Lib.cut
  rw [hi, if_pos (by omega), Int.toNat_natCast]
  have h1 : (u ++ (c :: tl) ++ v).take u.length = u := by simp
  have h2 : (u ++ (c :: tl) ++ v).drop (u.length + (c :: tl).length) = v := by
    rw [← List.length_append, List.drop_left]
  rw [h1, h2]
end Go.G9
namespace Go.Proofs.YtbnncgahepcfnaaDoor
open Go.RowKit Go.G9
def ctA (s sep : ByteArray) : ByteArray := ⟨(Lib.cut s.data.toList sep.data.toList).1.toArray⟩
def ctB (s sep : ByteArray) : ByteArray := ⟨(Lib.cut s.data.toList sep.data.toList).2.1.toArray⟩
theorem ct_size (s sep : ByteArray) : (ctA s sep).size ≤ s.size ∧ (ctB s sep).size ≤ s.size := by
  have h : s.data.toList.length = s.size := by simp
  unfold ctA ctB Lib.cut
  split
  · constructor
    · show (List.toArray _).size ≤ _
      rw [List.size_toArray, List.length_take]; omega
    · show (List.toArray _).size ≤ _
      rw [List.size_toArray, List.length_drop]; omega
  · constructor
    · show s.data.toList.toArray.size ≤ _
      rw [List.size_toArray]; omega
    · show (List.toArray _).size ≤ _
      simp
theorem ct_app {a b sep : ByteArray} {c : UInt8} {tl : List UInt8} (hs : sep.data.toList = c :: tl) (h : ∀ x ∈ a.data.toList, (x == c) = false) : ctA (a ++ sep ++ b) sep = a ∧ ctB (a ++ sep ++ b) sep = b := by
  have hl : (a ++ sep ++ b).data.toList = a.data.toList ++ (c :: tl) ++ b.data.toList := by rw [app_list, app_list, hs]
  unfold ctA ctB
  rw [hl, hs, lcut_app h]
  exact ⟨bz_data a, bz_data b⟩
theorem low_nc {s : ByteArray} (h : wordB s = true) {c : UInt8} (hc : c.toNat < 97) : ∀ x ∈ s.data.toList, (x == c) = false := by
  simp only [wordB, Bool.and_eq_true] at h
  intro x hx
  have h1 := h.1
  simp only [lowB, List.all_eq_true, Bool.and_eq_true, decide_eq_true_eq] at h1
  have := h1 x hx
  rw [beq_eq_false_iff_ne]; intro e; subst e; omega
theorem dig_nc {c d : UInt8} (h : digB c = true) (hd : d.toNat < 48) : (c == d) = false := by
  simp only [digB, Bool.and_eq_true, decide_eq_true_eq] at h
  rw [beq_eq_false_iff_ne]; intro e; subst e; omega
theorem numS_nc {v : Int} (h : 0 ≤ v) {d : UInt8} (hd : d.toNat < 48) : ∀ x ∈ (numS v).data.toList, (x == d) = false := by
  show ∀ x ∈ Lib.itoa v, _
  unfold Lib.itoa
  rw [if_neg (by omega)]
  exact fun x hx => dig_nc ((dec_spec v.toNat).2.1 x hx) hd
theorem numS_size4 {v : Int} (h0 : 0 ≤ v) (h1 : v ≤ 1000) : (numS v).size ≤ 4 := by
  show (Lib.itoa v).toArray.size ≤ 4
  rw [List.size_toArray]
  unfold Lib.itoa
  rw [if_neg (by omega)]
  exact nDigits_le 3 v.toNat (by omega)
def adoS (r : Res) : ByteArray := if r.ado then (⟨#[97, 100, 111, 112, 116, 101, 100]⟩ : ByteArray) else (⟨#[114, 101, 106, 101, 99, 116, 101, 100]⟩ : ByteArray)
theorem line_eq (r : Res) : r.line = r.motion ++ (⟨#[58, 32]⟩ : ByteArray) ++ (votS r.yes r.no r.abst ++ (⟨#[44, 32, 110, 101, 101, 100, 115, 32]⟩ : ByteArray) ++ (phrase r.need ++ (⟨#[44, 32]⟩ : ByteArray) ++ adoS r)) := by
  unfold Res.line adoS; simp only [ByteArray.append_assoc]
theorem votS_nc (y n a : Int) (hy : 0 ≤ y) (hn : 0 ≤ n) (ha : 0 ≤ a) : ∀ x ∈ (votS y n a).data.toList, (x == 44) = false := by
  have k1 := numS_nc hy (d := 44) (by decide)
  have k2 := numS_nc hn (d := 44) (by decide)
  have k3 := numS_nc ha (d := 44) (by decide)
  have e1 : ∀ x ∈ ((⟨#[32, 116, 111, 32]⟩ : ByteArray) : ByteArray).data.toList, (x == 44) = false := by decide
  have e2 : ∀ x ∈ ((⟨#[32, 119, 105, 116, 104, 32]⟩ : ByteArray) : ByteArray).data.toList, (x == 44) = false := by decide
  have e3 : ∀ x ∈ ((⟨#[32, 97, 98, 115, 116, 97, 105, 110, 105, 110, 103]⟩ : ByteArray) : ByteArray).data.toList, (x == 44) = false := by decide
  unfold votS
  intro x hx
  split at hx
  · simp only [app_list, List.mem_append] at hx
    rcases hx with ((hx | hx) | hx) | ((hx | hx) | hx)
    all_goals first | exact k1 x hx | exact e1 x hx | exact k2 x hx | exact e2 x hx | exact k3 x hx | exact e3 x hx
  · simp only [app_list, List.mem_append] at hx
    rcases hx with (hx | hx) | hx
    all_goals first | exact k1 x hx | exact e1 x hx | exact k2 x hx
theorem votS_words (y n a : Int) (hy : 0 ≤ y) (hn : 0 ≤ n) (ha : 0 ≤ a) : spl 32 (votS y n a).data.toList = if 0 < a then [(numS y).data.toList, ((⟨#[116, 111]⟩ : ByteArray) : ByteArray).data.toList, (numS n).data.toList, ((⟨#[119, 105, 116, 104]⟩ : ByteArray) : ByteArray).data.toList, (numS a).data.toList, ((⟨#[97, 98, 115, 116, 97, 105, 110, 105, 110, 103]⟩ : ByteArray) : ByteArray).data.toList] else [(numS y).data.toList, ((⟨#[116, 111]⟩ : ByteArray) : ByteArray).data.toList, (numS n).data.toList] := by
  have k1 := numS_nc hy (d := 32) (by decide)
  have k2 := numS_nc hn (d := 32) (by decide)
  have k3 := numS_nc ha (d := 32) (by decide)
  unfold votS
  split
  · have hl : ((numS y ++ (⟨#[32, 116, 111, 32]⟩ : ByteArray) ++ numS n) ++ ((⟨#[32, 119, 105, 116, 104, 32]⟩ : ByteArray) ++ numS a ++ (⟨#[32, 97, 98, 115, 116, 97, 105, 110, 105, 110, 103]⟩ : ByteArray))).data.toList = (numS y).data.toList ++ 32 :: ([116, 111] ++ 32 :: ((numS n).data.toList ++ 32 :: ([119, 105, 116, 104] ++ 32 :: ((numS a).data.toList ++ 32 :: ((⟨#[97, 98, 115, 116, 97, 105, 110, 105, 110, 103]⟩ : ByteArray) : ByteArray).data.toList)))) := by
      simp
    rw [hl, spl_sep k1, spl_sep (by decide), spl_sep k2, spl_sep (by decide), spl_sep k3, spl_none (by decide)]
  · have hl : (numS y ++ (⟨#[32, 116, 111, 32]⟩ : ByteArray) ++ numS n).data.toList = (numS y).data.toList ++ 32 :: ([116, 111] ++ 32 :: (numS n).data.toList) := by
      simp
    rw [hl, spl_sep k1, spl_sep (by decide), spl_none k2]
theorem votS_spB (y n a : Int) (hy : 0 ≤ y) (hn : 0 ≤ n) (ha : 0 ≤ a) : spB 32 (votS y n a) = if 0 < a then [numS y, (⟨#[116, 111]⟩ : ByteArray), numS n, (⟨#[119, 105, 116, 104]⟩ : ByteArray), numS a, (⟨#[97, 98, 115, 116, 97, 105, 110, 105, 110, 103]⟩ : ByteArray)] else [numS y, (⟨#[116, 111]⟩ : ByteArray), numS n] := by
  unfold spB
  rw [votS_words y n a hy hn ha]
  split <;> (simp only [List.map_cons, List.map_nil, bz_data]; rfl)
theorem phr_nc (n : Int) : ∀ x ∈ (phrase n).data.toList, (x == 44) = false := by
  unfold phrase; split
  · decide
  · split <;> decide
theorem adoS_nc (r : Res) : ∀ x ∈ (adoS r).data.toList, (x == 44) = false := by
  unfold adoS; split <;> decide
theorem resB_word {r : Res} (h : resB r = true) : wordB r.motion = true := by
  simp only [resB, Bool.and_eq_true] at h; exact h.1
theorem wordB_size {s : ByteArray} (h : wordB s = true) : 1 ≤ s.size ∧ s.size ≤ 10 := by
  simp only [wordB, Bool.and_eq_true, inB_iff] at h; omega
theorem resB_bd' {r : Res} (h : resB r = true) : 0 ≤ r.yes ∧ r.yes ≤ 1000 ∧ 0 ≤ r.no ∧ r.no ≤ 1000 ∧ 0 ≤ r.abst ∧ r.abst ≤ 1000 ∧ 1 ≤ r.need ∧ r.need ≤ 3 := by
  obtain ⟨m, nd, y, n, a, hs⟩ := r; exact resB_bd h
theorem line_cuts {r : Res} (h : resB r = true) : ctA r.line (⟨#[58, 32]⟩ : ByteArray) = r.motion ∧ ctA (ctB r.line (⟨#[58, 32]⟩ : ByteArray)) (⟨#[44, 32, 110, 101, 101, 100, 115, 32]⟩ : ByteArray) = votS r.yes r.no r.abst ∧ ctA (ctB (ctB r.line (⟨#[58, 32]⟩ : ByteArray)) (⟨#[44, 32, 110, 101, 101, 100, 115, 32]⟩ : ByteArray)) (⟨#[44, 32]⟩ : ByteArray) = phrase r.need := by
  obtain ⟨a1, a2, a3, a4, a5, a6, a7, a8⟩ := resB_bd' h
  obtain ⟨h1, h2⟩ := ct_app (a := r.motion) (b := votS r.yes r.no r.abst ++ (⟨#[44, 32, 110, 101, 101, 100, 115, 32]⟩ : ByteArray) ++ (phrase r.need ++ (⟨#[44, 32]⟩ : ByteArray) ++ adoS r)) (sep := (⟨#[58, 32]⟩ : ByteArray)) rfl (low_nc (resB_word h) (by decide))
  obtain ⟨h3, h4⟩ := ct_app (a := votS r.yes r.no r.abst) (b := phrase r.need ++ (⟨#[44, 32]⟩ : ByteArray) ++ adoS r) (sep := (⟨#[44, 32, 110, 101, 101, 100, 115, 32]⟩ : ByteArray)) rfl (votS_nc _ _ _ a1 a3 a5)
  obtain ⟨h5, _⟩ := ct_app (a := phrase r.need) (b := adoS r) (sep := (⟨#[44, 32]⟩ : ByteArray)) rfl (phr_nc _)
  rw [line_eq, h1, h2, h3, h4, h5]
  exact ⟨rfl, rfl, rfl⟩
theorem line_parts {r : Res} (h : resB r = true) : spB 44 r.line = [r.motion ++ (⟨#[58, 32]⟩ : ByteArray) ++ votS r.yes r.no r.abst, (⟨#[32, 110, 101, 101, 100, 115, 32]⟩ : ByteArray) ++ phrase r.need, (⟨#[32]⟩ : ByteArray) ++ adoS r] := by
  obtain ⟨a1, a2, a3, a4, a5, a6, a7, a8⟩ := resB_bd' h
  have k1 := low_nc (resB_word h) (c := 44) (by decide)
  have k2 := votS_nc r.yes r.no r.abst a1 a3 a5
  have k3 := phr_nc r.need
  have k4 := adoS_nc r
  have e1 : ∀ x ∈ (r.motion ++ (⟨#[58, 32]⟩ : ByteArray) ++ votS r.yes r.no r.abst).data.toList, (x == 44) = false := by
    intro x hx
    have e : ∀ x ∈ ((⟨#[58, 32]⟩ : ByteArray) : ByteArray).data.toList, (x == 44) = false := by decide
    simp only [app_list, List.mem_append] at hx
    rcases hx with (hx | hx) | hx
    all_goals first | exact k1 x hx | exact e x hx | exact k2 x hx
  have e2 : ∀ x ∈ (((⟨#[32, 110, 101, 101, 100, 115, 32]⟩ : ByteArray) : ByteArray) ++ phrase r.need).data.toList, (x == 44) = false := by
    intro x hx
    have e : ∀ x ∈ ((⟨#[32, 110, 101, 101, 100, 115, 32]⟩ : ByteArray) : ByteArray).data.toList, (x == 44) = false := by decide
    simp only [app_list, List.mem_append] at hx
    rcases hx with hx | hx
    all_goals first | exact e x hx | exact k3 x hx
  have e3 : ∀ x ∈ (((⟨#[32]⟩ : ByteArray) : ByteArray) ++ adoS r).data.toList, (x == 44) = false := by
    intro x hx
    have e : ∀ x ∈ ((⟨#[32]⟩ : ByteArray) : ByteArray).data.toList, (x == 44) = false := by decide
    simp only [app_list, List.mem_append] at hx
    rcases hx with hx | hx
    all_goals first | exact e x hx | exact k4 x hx
  have hl : r.line.data.toList = (r.motion ++ (⟨#[58, 32]⟩ : ByteArray) ++ votS r.yes r.no r.abst).data.toList ++ 44 :: ((((⟨#[32, 110, 101, 101, 100, 115, 32]⟩ : ByteArray) : ByteArray) ++ phrase r.need).data.toList ++ 44 :: (((⟨#[32]⟩ : ByteArray) : ByteArray) ++ adoS r).data.toList) := by
    rw [line_eq]; simp
  unfold spB
  rw [hl, spl_sep e1, spl_sep e2, spl_none e3]
  simp only [List.map_cons, List.map_nil, bz_data]
theorem head_words {r : Res} (h : resB r = true) : spB 32 (r.motion ++ (⟨#[58, 32]⟩ : ByteArray) ++ votS r.yes r.no r.abst) = (r.motion ++ (⟨#[58]⟩ : ByteArray)) :: spB 32 (votS r.yes r.no r.abst) := by
  have k1 := low_nc (resB_word h) (c := 32) (by decide)
  have e1 : ∀ x ∈ (r.motion ++ (⟨#[58]⟩ : ByteArray)).data.toList, (x == 32) = false := by
    intro x hx
    have e : ∀ x ∈ ((⟨#[58]⟩ : ByteArray) : ByteArray).data.toList, (x == 32) = false := by decide
    simp only [app_list, List.mem_append] at hx
    rcases hx with hx | hx
    all_goals first | exact k1 x hx | exact e x hx
  have hl : (r.motion ++ (⟨#[58, 32]⟩ : ByteArray) ++ votS r.yes r.no r.abst).data.toList = (r.motion ++ (⟨#[58]⟩ : ByteArray)).data.toList ++ 32 :: (votS r.yes r.no r.abst).data.toList := by
    simp
  unfold spB
  rw [hl, spl_sep e1]
  simp only [List.map_cons, bz_data]
theorem line_size100 {r : Res} (h : resB r = true) : r.line.size ≤ 100 := by
  obtain ⟨a1, a2, a3, a4, a5, a6, a7, a8⟩ := resB_bd' h
  have hm := wordB_size (resB_word h)
  have n1 := numS_size4 a1 a2
  have n2 := numS_size4 a3 a4
  have n3 := numS_size4 a5 a6
  have h2 := phrase_size r.need
  have e1 : ((⟨#[58, 32]⟩ : ByteArray) : ByteArray).size = 2 := rfl
  have e2 : ((⟨#[44, 32, 110, 101, 101, 100, 115, 32]⟩ : ByteArray) : ByteArray).size = 8 := rfl
  have e3 : ((⟨#[44, 32]⟩ : ByteArray) : ByteArray).size = 2 := rfl
  have f1 : ((⟨#[32, 116, 111, 32]⟩ : ByteArray) : ByteArray).size = 4 := rfl
  have f2 : ((⟨#[32, 119, 105, 116, 104, 32]⟩ : ByteArray) : ByteArray).size = 6 := rfl
  have f3 : ((⟨#[32, 97, 98, 115, 116, 97, 105, 110, 105, 110, 103]⟩ : ByteArray) : ByteArray).size = 11 := rfl
  have hv : (votS r.yes r.no r.abst).size ≤ 33 := by
    unfold votS
    split <;> simp only [ByteArray.size_append] <;> omega
  have ha : (adoS r).size ≤ 8 := by unfold adoS; split <;> decide
  rw [line_eq]
  simp only [ByteArray.size_append]
  omega
end Go.Proofs.YtbnncgahepcfnaaDoor
