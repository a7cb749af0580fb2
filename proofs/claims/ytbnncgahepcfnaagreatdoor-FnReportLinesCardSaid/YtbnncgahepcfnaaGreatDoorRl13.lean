/- The words of a result's line: what the cuts and the splits give. -/
import Derived.Test.YtbnncgahepcfnaaGreatDoorRl10
import Derived.Test.YtbnncgahepcfnaaGreatDoorRl8
import Derived.Lib.IndexMore
import Derived.Lib.SlicesS
namespace Go.G9
open Go.RowKit
theorem lidx_app {c : UInt8} {tl : List UInt8} : ∀ {u v : List UInt8}, (∀ x ∈ u, (x == c) = false) → Lib.index (u ++ (c :: tl) ++ v) (c :: tl) = (u.length : Int)
  | [], v, _ => by
    have hp : (c :: tl).isPrefixOf (c :: (tl ++ v)) = true := by
      rw [List.isPrefixOf_iff_prefix]; exact ⟨v, by simp⟩
    show Lib.index (c :: (tl ++ v)) (c :: tl) = _
    rw [Lib.index, if_pos hp]; rfl
  | y :: u, v, h => by
    have hy := h y (by simp)
    have ih := lidx_app (tl := tl) (u := u) (v := v) (fun x hx => h x (by simp [hx]))
    have hn : ¬ (c :: tl).isPrefixOf (y :: (u ++ (c :: tl) ++ v)) = true := by
      intro hp
      simp only [List.isPrefixOf, Bool.and_eq_true] at hp
      have := eq_of_beq hp.1
      subst this; simp at hy
    show Lib.index (y :: (u ++ (c :: tl) ++ v)) (c :: tl) = _
    rw [Lib.index, if_neg hn, ih, if_neg (by simp)]
    simp
theorem lcut_app {c : UInt8} {tl u v : List UInt8} (h : ∀ x ∈ u, (x == c) = false) : Lib.cut (u ++ (c :: tl) ++ v) (c :: tl) = (u, v, true) := by
  have hi := lidx_app (tl := tl) (v := v) h
  unfold Lib.cut
  rw [hi, if_pos (by omega), Int.toNat_natCast]
  have h1 : (u ++ (c :: tl) ++ v).take u.length = u := by simp
  have h2 : (u ++ (c :: tl) ++ v).drop (u.length + (c :: tl).length) = v := by
    rw [← List.length_append, List.drop_left]
  rw [h1, h2]
end Go.G9
namespace Go.Proofs.YtbnncgahepcfnaaGreatDoor
open Go.RowKit Go.G9
def ctA (s sep : ByteArray) : ByteArray := ⟨(Lib.cut s.data.toList sep.data.toList).1.toArray⟩
def ctB (s sep : ByteArray) : ByteArray := ⟨(Lib.cut s.data.toList sep.data.toList).2.1.toArray⟩
theorem ct_size (s sep : ByteArray) : (ctA s sep).size ≤ s.size ∧ (ctB s sep).size ≤ s.size := by
  have h : s.data.toList.length = s.size := by simp
  unfold ctA ctB Lib.cut
  split
  · constructor
    · show (List.toArray _).size ≤ _
      rw [List.size_toArray, List.length_take]; omega
    · show (List.toArray _).size ≤ _
      rw [List.size_toArray, List.length_drop]; omega
  · constructor
    · show s.data.toList.toArray.size ≤ _
      rw [List.size_toArray]; omega
    · show (List.toArray _).size ≤ _
      simp
theorem ct_app {a b sep : ByteArray} {c : UInt8} {tl : List UInt8} (hs : sep.data.toList = c :: tl) (h : ∀ x ∈ a.data.toList, (x == c) = false) : ctA (a ++ sep ++ b) sep = a ∧ ctB (a ++ sep ++ b) sep = b := by
  have hl : (a ++ sep ++ b).data.toList = a.data.toList ++ (c :: tl) ++ b.data.toList := by rw [app_list, app_list, hs]
  unfold ctA ctB
  rw [hl, hs, lcut_app h]
  exact ⟨bz_data a, bz_data b⟩
theorem low_nc {s : ByteArray} (h : wordB s = true) {c : UInt8} (hc : c.toNat < 97) : ∀ x ∈ s.data.toList, (x == c) = false := by
  simp only [wordB, Bool.and_eq_true] at h
  intro x hx
  have h1 := h.1
  simp only [lowB, List.all_eq_true, Bool.and_eq_true, decide_eq_true_eq] at h1
  have := h1 x hx
  rw [beq_eq_false_iff_ne]; intro e; subst e; omega
theorem dig_nc {c d : UInt8} (h : digB c = true) (hd : d.toNat < 48) : (c == d) = false := by
  simp only [digB, Bool.and_eq_true, decide_eq_true_eq] at h
  rw [beq_eq_false_iff_ne]; intro e; subst e; omega
theorem numS_nc {v : Int} (h : 0 ≤ v) {d : UInt8} (hd : d.toNat < 48) : ∀ x ∈ (numS v).data.toList, (x == d) = false := by
  show ∀ x ∈ Lib.itoa v, _
  unfold Lib.itoa
  rw [if_neg (by omega)]
  exact fun x hx => dig_nc ((dec_spec v.toNat).2.1 x hx) hd
theorem numS_size4 {v : Int} (h0 : 0 ≤ v) (h1 : v ≤ 1000) : (numS v).size ≤ 4 := by
  show (Lib.itoa v).toArray.size ≤ 4
  rw [List.size_toArray]
  unfold Lib.itoa
  rw [if_neg (by omega)]
  exact nDigits_le 3 v.toNat (by omega)
def adoS (r : Res) : ByteArray := if r.ado then (⟨#[97, 100, 111, 112, 116, 101, 100]⟩ : ByteArray) else (⟨#[114, 101, 106, 101, 99, 116, 101, 100]⟩ : ByteArray)
theorem line_eq (r : Res) : r.line = r.motion ++ (⟨#[58, 32]⟩ : ByteArray) ++ (votS r.yes r.no r.abst ++ (⟨#[44, 32, 110, 101, 101, 100, 115, 32]⟩ : ByteArray) ++ (phrase r.need ++ (⟨#[44, 32]⟩ : ByteArray) ++ adoS r)) := by
  unfold Res.line adoS; simp only [ByteArray.append_assoc]
theorem votS_nc (y n a : Int) (hy : 0 ≤ y) (hn : 0 ≤ n) (ha : 0 ≤ a) : ∀ x ∈ (votS y n a).data.toList, (x == 44) = false := by
  have k1 := numS_nc hy (d := 44) (by decide)
  have k2 := numS_nc hn (d := 44) (by decide)
  have k3 := numS_nc ha (d := 44) (by decide)
  have e1 : ∀ x ∈ ((⟨#[32, 116, 111, 32]⟩ : ByteArray) : ByteArray).data.toList, (x == 44) = false := by decide
  have e2 : ∀ x ∈ ((⟨#[32, 119, 105, 116, 104, 32]⟩ : ByteArray) : ByteArray).data.toList, (x == 44) = false := by decide
  have e3 : ∀ x ∈ ((⟨#[32, 97, 98, 115, 116, 97, 105, 110, 105, 110, 103]⟩ : ByteArray) : ByteArray).data.toList, (x == 44) = false := by decide
  unfold votS
  intro x hx
  split at hx
  · simp only [app_list, List.mem_append] at hx
    rcases hx with ((hx | hx) | hx) | ((hx | hx) | hx)
    all_goals first | exact k1 x hx | exact e1 x hx | exact k2 x hx | exact e2 x hx | exact k3 x hx | exact e3 x hx
  · simp only [app_list, List.mem_append] at hx
    rcases hx with (hx | hx) | hx
    all_goals first | exact k1 x hx | exact e1 x hx | exact k2 x hx
theorem votS_words (y n a : Int) (hy : 0 ≤ y) (hn : 0 ≤ n) (ha : 0 ≤ a) : spl 32 (votS y n a).data.toList = if 0 < a then [(numS y).data.toList, ((⟨#[116, 111]⟩ : ByteArray) : ByteArray).data.toList, (numS n).data.toList, ((⟨#[119, 105, 116, 104]⟩ : ByteArray) : ByteArray).data.toList, (numS a).data.toList, ((⟨#[97, 98, 115, 116, 97, 105, 110, 105, 110, 103]⟩ : ByteArray) : ByteArray).data.toList] else [(numS y).data.toList, ((⟨#[116, 111]⟩ : ByteArray) : ByteArray).data.toList, (numS n).data.toList] := by
  have k1 := numS_nc hy (d := 32) (by decide)
  have k2 := numS_nc hn (d := 32) (by decide)
  have k3 := numS_nc ha (d := 32) (by decide)
  unfold votS
  split
  · have hl : ((numS y ++ (⟨#[32, 116, 111, 32]⟩ : ByteArray) ++ numS n) ++ ((⟨#[32, 119, 105, 116, 104, 32]⟩ : ByteArray) ++ numS a ++ (⟨#[32, 97, 98, 115, 116, 97, 105, 110, 105, 110, 103]⟩ : ByteArray))).data.toList = (numS y).data.toList ++ 32 :: ([116, 111] ++ 32 :: ((numS n).data.toList ++ 32 :: ([119, 105, 116, 104] ++ 32 :: ((numS a).data.toList ++ 32 :: ((⟨#[97, 98, 115, 116, 97, 105, 110, 105, 110, 103]⟩ : ByteArray) : ByteArray).data.toList)))) := by
      simp
    rw [hl, spl_sep k1, spl_sep (by decide), spl_sep k2, spl_sep (by decide), spl_sep k3, spl_none (by decide)]
  · have hl : (numS y ++ (⟨#[32, 116, 111, 32]⟩ : ByteArray) ++ numS n).data.toList = (numS y).data.toList ++ 32 :: ([116, 111] ++ 32 :: (numS n).data.toList) := by
      simp
    rw [hl, spl_sep k1, spl_sep (by decide), spl_none k2]
theorem votS_spB (y n a : Int) (hy : 0 ≤ y) (hn : 0 ≤ n) (ha : 0 ≤ a) : spB 32 (votS y n a) = if 0 < a then [numS y, (⟨#[116, 111]⟩ : ByteArray), numS n, (⟨#[119, 105, 116, 104]⟩ : ByteArray), numS a, (⟨#[97, 98, 115, 116, 97, 105, 110, 105, 110, 103]⟩ : ByteArray)] else [numS y, (⟨#[116, 111]⟩ : ByteArray), numS n] := by
  unfold spB
  rw [votS_words y n a hy hn ha]
  split <;> (simp only [List.map_cons, List.map_nil, bz_data]; rfl)
theorem phr_nc (n : Int) : ∀ x ∈ (phrase n).data.toList, (x == 44) = false := by
  unfold phrase; split
  · decide
  · split <;> decide
theorem adoS_nc (r : Res) : ∀ x ∈ (adoS r).data.toList, (x == 44) = false := by
  unfold adoS; split <;> decide
theorem resB_word {r : Res} (h : resB r = true) : wordB r.motion = true := by
  simp only [resB, Bool.and_eq_true] at h; exact h.1
theorem wordB_size {s : ByteArray} (h : wordB s = true) : 1 ≤ s.size ∧ s.size ≤ 10 := by
  simp only [wordB, Bool.and_eq_true, inB_iff] at h; omega
theorem resB_bd' {r : Res} (h : resB r = true) : 0 ≤ r.yes ∧ r.yes ≤ 1000 ∧ 0 ≤ r.no ∧ r.no ≤ 1000 ∧ 0 ≤ r.abst ∧ r.abst ≤ 1000 ∧ 1 ≤ r.need ∧ r.need ≤ 3 := by
  obtain ⟨m, nd, y, n, a, hs⟩ := r; exact resB_bd h
theorem line_cuts {r : Res} (h : resB r = true) : ctA r.line (⟨#[58, 32]⟩ : ByteArray) = r.motion ∧ ctA (ctB r.line (⟨#[58, 32]⟩ : ByteArray)) (⟨#[44, 32, 110, 101, 101, 100, 115, 32]⟩ : ByteArray) = votS r.yes r.no r.abst ∧ ctA (ctB (ctB r.line (⟨#[58, 32]⟩ : ByteArray)) (⟨#[44, 32, 110, 101, 101, 100, 115, 32]⟩ : ByteArray)) (⟨#[44, 32]⟩ : ByteArray) = phrase r.need := by
  obtain ⟨a1, a2, a3, a4, a5, a6, a7, a8⟩ := resB_bd' h
  obtain ⟨h1, h2⟩ := ct_app (a := r.motion) (b := votS r.yes r.no r.abst ++ (⟨#[44, 32, 110, 101, 101, 100, 115, 32]⟩ : ByteArray) ++ (phrase r.need ++ (⟨#[44, 32]⟩ : ByteArray) ++ adoS r)) (sep := (⟨#[58, 32]⟩ : ByteArray)) rfl (low_nc (resB_word h) (by decide))
  obtain ⟨h3, h4⟩ := ct_app (a := votS r.yes r.no r.abst) (b := phrase r.need ++ (⟨#[44, 32]⟩ : ByteArray) ++ adoS r) (sep := (⟨#[44, 32, 110, 101, 101, 100, 115, 32]⟩ : ByteArray)) rfl (votS_nc _ _ _ a1 a3 a5)
  obtain ⟨h5, _⟩ := ct_app (a := phrase r.need) (b := adoS r) (sep := (⟨#[44, 32]⟩ : ByteArray)) rfl (phr_nc _)
  rw [line_eq, h1, h2, h3, h4, h5]
  exact ⟨rfl, rfl, rfl⟩
theorem line_parts {r : Res} (h : resB r = true) : spB 44 r.line = [r.motion ++ (⟨#[58, 32]⟩ : ByteArray) ++ votS r.yes r.no r.abst, (⟨#[32, 110, 101, 101, 100, 115, 32]⟩ : ByteArray) ++ phrase r.need, (⟨#[32]⟩ : ByteArray) ++ adoS r] := by
  obtain ⟨a1, a2, a3, a4, a5, a6, a7, a8⟩ := resB_bd' h
  have k1 := low_nc (resB_word h) (c := 44) (by decide)
  have k2 := votS_nc r.yes r.no r.abst a1 a3 a5
  have k3 := phr_nc r.need
  have k4 := adoS_nc r
  have e1 : ∀ x ∈ (r.motion ++ (⟨#[58, 32]⟩ : ByteArray) ++ votS r.yes r.no r.abst).data.toList, (x == 44) = false := by
    intro x hx
    have e : ∀ x ∈ ((⟨#[58, 32]⟩ : ByteArray) : ByteArray).data.toList, (x == 44) = false := by decide
    simp only [app_list, List.mem_append] at hx
    rcases hx with (hx | hx) | hx
    all_goals first | exact k1 x hx | exact e x hx | exact k2 x hx
  have e2 : ∀ x ∈ (((⟨#[32, 110, 101, 101, 100, 115, 32]⟩ : ByteArray) : ByteArray) ++ phrase r.need).data.toList, (x == 44) = false := by
    intro x hx
    have e : ∀ x ∈ ((⟨#[32, 110, 101, 101, 100, 115, 32]⟩ : ByteArray) : ByteArray).data.toList, (x == 44) = false := by decide
    simp only [app_list, List.mem_append] at hx
    rcases hx with hx | hx
    all_goals first | exact e x hx | exact k3 x hx
  have e3 : ∀ x ∈ (((⟨#[32]⟩ : ByteArray) : ByteArray) ++ adoS r).data.toList, (x == 44) = false := by
    intro x hx
    have e : ∀ x ∈ ((⟨#[32]⟩ : ByteArray) : ByteArray).data.toList, (x == 44) = false := by decide
    simp only [app_list, List.mem_append] at hx
    rcases hx with hx | hx
    all_goals first | exact e x hx | exact k4 x hx
  have hl : r.line.data.toList = (r.motion ++ (⟨#[58, 32]⟩ : ByteArray) ++ votS r.yes r.no r.abst).data.toList ++ 44 :: ((((⟨#[32, 110, 101, 101, 100, 115, 32]⟩ : ByteArray) : ByteArray) ++ phrase r.need).data.toList ++ 44 :: (((⟨#[32]⟩ : ByteArray) : ByteArray) ++ adoS r).data.toList) := by
    rw [line_eq]; simp
  unfold spB
  rw [hl, spl_sep e1, spl_sep e2, spl_none e3]
  simp only [List.map_cons, List.map_nil, bz_data]
theorem head_words {r : Res} (h : resB r = true) : spB 32 (r.motion ++ (⟨#[58, 32]⟩ : ByteArray) ++ votS r.yes r.no r.abst) = (r.motion ++ (⟨#[58]⟩ : ByteArray)) :: spB 32 (votS r.yes r.no r.abst) := by
  have k1 := low_nc (resB_word h) (c := 32) (by decide)
  have e1 : ∀ x ∈ (r.motion ++ (⟨#[58]⟩ : ByteArray)).data.toList, (x == 32) = false := by
    intro x hx
    have e : ∀ x ∈ ((⟨#[58]⟩ : ByteArray) : ByteArray).data.toList, (x == 32) = false := by decide
    simp only [app_list, List.mem_append] at hx
    rcases hx with hx | hx
    all_goals first | exact k1 x hx | exact e x hx
  have hl : (r.motion ++ (⟨#[58, 32]⟩ : ByteArray) ++ votS r.yes r.no r.abst).data.toList = (r.motion ++ (⟨#[58]⟩ : ByteArray)).data.toList ++ 32 :: (votS r.yes r.no r.abst).data.toList := by
    simp
  unfold spB
  rw [hl, spl_sep e1]
  simp only [List.map_cons, bz_data]
theorem line_size100 {r : Res} (h : resB r = true) : r.line.size ≤ 100 := by
  obtain ⟨a1, a2, a3, a4, a5, a6, a7, a8⟩ := resB_bd' h
  have hm := wordB_size (resB_word h)
  have n1 := numS_size4 a1 a2
  have n2 := numS_size4 a3 a4
  have n3 := numS_size4 a5 a6
  have h2 := phrase_size r.need
  have e1 : ((⟨#[58, 32]⟩ : ByteArray) : ByteArray).size = 2 := rfl
  have e2 : ((⟨#[44, 32, 110, 101, 101, 100, 115, 32]⟩ : ByteArray) : ByteArray).size = 8 := rfl
  have e3 : ((⟨#[44, 32]⟩ : ByteArray) : ByteArray).size = 2 := rfl
  have f1 : ((⟨#[32, 116, 111, 32]⟩ : ByteArray) : ByteArray).size = 4 := rfl
  have f2 : ((⟨#[32, 119, 105, 116, 104, 32]⟩ : ByteArray) : ByteArray).size = 6 := rfl
  have f3 : ((⟨#[32, 97, 98, 115, 116, 97, 105, 110, 105, 110, 103]⟩ : ByteArray) : ByteArray).size = 11 := rfl
  have hv : (votS r.yes r.no r.abst).size ≤ 33 := by
    unfold votS
    split <;> simp only [ByteArray.size_append] <;> omega
  have ha : (adoS r).size ≤ 8 := by unfold adoS; split <;> decide
  rw [line_eq]
  simp only [ByteArray.size_append]
  omega
end Go.Proofs.YtbnncgahepcfnaaGreatDoor
/- A result read from its line: plain law. -/
namespace Go.Proofs.YtbnncgahepcfnaaGreatDoor
open Go.RowKit Go.G9
def isR (s : ByteArray) (r : Res) : Prop := resB r = true ∧ r.line = s
def rdI (s : ByteArray) : Int := if rdOk s then rdN s.data.toList else 0
theorem rdOut_I (s : ByteArray) : rdOut s = .tuple #[.int .i64 (rdI s), .bool (rdOk s)] := by
  unfold rdOut rdI; cases rdOk s <;> rfl
theorem rdI_numS {v : Int} (h0 : 0 ≤ v) (h1 : v ≤ 1000) : rdI (numS v) = v ∧ rdOk (numS v) = true := by
  obtain ⟨a, b⟩ := rd_numS v (by omega) (by omega)
  exact ⟨by rw [rdI, if_pos a, b], a⟩
def pv3 (a c e : ByteArray) : Value := .tuple #[.agg #[.int .i64 (rdI a), .int .i64 (rdI c), .int .i64 (rdI e)], .bool (rdOk a && (rdOk c && rdOk e))]
def pvV : List ByteArray → Value
  | [a, _, c] => pv3 a c (⟨#[48]⟩ : ByteArray)
  | a :: _ :: c :: _ :: e :: _ => pv3 a c e
  | _ => .tuple #[.agg #[.int .i64 0, .int .i64 0, .int .i64 0], .bool false]
theorem pvV_form (ws : List ByteArray) : ∃ y n a b, pvV ws = .tuple #[.agg #[.int .i64 y, .int .i64 n, .int .i64 a], .bool b] := by
  unfold pvV; split <;> exact ⟨_, _, _, _, rfl⟩
theorem numS_zero : numS 0 = (⟨#[48]⟩ : ByteArray) := by
  apply ba_ext
  show Lib.itoa 0 = [48]
  unfold Lib.itoa
  rw [if_neg (by omega)]
  exact Lib.decDigits_one (by decide)
theorem cutApp (s : ByteArray) (c : UInt8) {m : Nat} (h : (s ++ ⟨#[c]⟩).size = m + 1) : (s ++ ⟨#[c]⟩).extract 0 m = s := by
  have hm : m = s.size := by
    rw [ByteArray.size_append] at h
    have : (⟨#[c]⟩ : ByteArray).size = 1 := rfl
    omega
  apply ba_ext
  rw [extract_list, app_list, List.drop_zero, hm]
  have h2 : s.data.toList.length = s.size := by simp
  rw [Nat.sub_zero, ← h2, List.take_left]
theorem pv3_num {y n a : Int} (h0 : 0 ≤ y) (h1 : y ≤ 1000) (h2 : 0 ≤ n) (h3 : n ≤ 1000) (h4 : 0 ≤ a) (h5 : a ≤ 1000) : pv3 (numS y) (numS n) (numS a) = .tuple #[.agg #[.int .i64 y, .int .i64 n, .int .i64 a], .bool true] := by
  obtain ⟨a1, a2⟩ := rdI_numS h0 h1
  obtain ⟨b1, b2⟩ := rdI_numS h2 h3
  obtain ⟨c1, c2⟩ := rdI_numS h4 h5
  rw [pv3, a1, a2, b1, b2, c1, c2]; rfl
theorem pvV_votS {y n a : Int} (h0 : 0 ≤ y) (h1 : y ≤ 1000) (h2 : 0 ≤ n) (h3 : n ≤ 1000) (h4 : 0 ≤ a) (h5 : a ≤ 1000) : pvV (spB 32 (votS y n a)) = .tuple #[.agg #[.int .i64 y, .int .i64 n, .int .i64 a], .bool true] := by
  rw [votS_spB y n a h0 h2 h4]
  split
  · exact pv3_num h0 h1 h2 h3 h4 h5
  · obtain rfl : a = 0 := by omega
    have h := pv3_num h0 h1 h2 h3 (Int.le_refl 0) h5
    rw [numS_zero] at h; exact h
def phL : List ByteArray := [⟨#[]⟩, (⟨#[97, 32, 109, 97, 106, 111, 114, 105, 116, 121]⟩ : ByteArray), (⟨#[116, 119, 111, 32, 116, 104, 105, 114, 100, 115]⟩ : ByteArray), (⟨#[97, 108, 108]⟩ : ByteArray)]
theorem idx_phr {n : Int} (h0 : 1 ≤ n) (h1 : n ≤ 3) : Lib.idxOfS phL (phrase n) = n := by
  obtain rfl | rfl | rfl : n = 1 ∨ n = 2 ∨ n = 3 := by omega
  all_goals decide +kernel
def poM (s : ByteArray) : ByteArray := ctA s (⟨#[58, 32]⟩ : ByteArray)
def poU (s : ByteArray) : ByteArray := ctA (ctB s (⟨#[58, 32]⟩ : ByteArray)) (⟨#[44, 32, 110, 101, 101, 100, 115, 32]⟩ : ByteArray)
def poN (s : ByteArray) : ByteArray := ctA (ctB (ctB s (⟨#[58, 32]⟩ : ByteArray)) (⟨#[44, 32, 110, 101, 101, 100, 115, 32]⟩ : ByteArray)) (⟨#[44, 32]⟩ : ByteArray)
theorem po_facts {s : ByteArray} {r : Res} (h : isR s r) : poM s = r.motion ∧ pvV (spB 32 (poU s)) = .tuple #[.agg #[.int .i64 r.yes, .int .i64 r.no, .int .i64 r.abst], .bool true] ∧ Lib.idxOfS phL (poN s) = r.need := by
  obtain ⟨hr, rfl⟩ := h
  obtain ⟨a1, a2, a3, a4, a5, a6, a7, a8⟩ := resB_bd' hr
  obtain ⟨c1, c2, c3⟩ := line_cuts hr
  unfold poM poU poN
  rw [c1, c2, c3, pvV_votS a1 a2 a3 a4 a5 a6, idx_phr a7 a8]
  exact ⟨rfl, rfl, rfl⟩
theorem isR_uniq {s : ByteArray} {r q : Res} (h : isR s r) (k : isR s q) : r = q := by
  obtain ⟨a1, a2, a3⟩ := po_facts h
  obtain ⟨b1, b2, b3⟩ := po_facts k
  rw [a1] at b1; rw [a2] at b2; rw [a3] at b3
  simp only [Value.tuple.injEq, Array.mk.injEq, List.cons.injEq, Value.agg.injEq, Value.int.injEq, true_and, and_true] at b2
  obtain ⟨e1, e2, e3⟩ := b2
  obtain ⟨m, nd, y, n, a, hs⟩ := r; obtain ⟨m', nd', y', n', a', hs'⟩ := q
  simp only at b1 b3 e1 e2 e3
  subst b1 b3 e1 e2 e3; rfl
open Classical in
noncomputable def poO (s : ByteArray) : Option Res := if h : ∃ r, isR s r then some (Classical.choose h) else none
theorem poO_yes {s : ByteArray} {r : Res} (h : isR s r) : poO s = some r := by
  have hx : ∃ n, isR s n := ⟨r, h⟩
  rw [poO, dif_pos hx, isR_uniq (Classical.choose_spec hx) h]
theorem poO_no {s : ByteArray} (h : ¬ ∃ n, isR s n) : poO s = none := by rw [poO, dif_neg h]
theorem poO_is {s : ByteArray} {r : Res} (h : poO s = some r) : isR s r := by
  by_cases hx : ∃ n, isR s n
  · obtain ⟨q, hq⟩ := hx
    rw [poO_yes hq] at h; cases h; exact hq
  · rw [poO_no hx] at h; cases h
def resV : Option Res → Value
  | some r => .tuple #[.agg #[.string r.motion, .int .i64 r.need, .int .i64 r.yes, .int .i64 r.no, .int .i64 r.abst], .bool true]
  | none => .tuple #[.agg #[.string ⟨#[]⟩, .int .i64 0, .int .i64 0, .int .i64 0, .int .i64 0], .bool false]
theorem resV_form (o : Option Res) : ∃ m nd y n a b, resV o = .tuple #[.agg #[.string m, .int .i64 nd, .int .i64 y, .int .i64 n, .int .i64 a], .bool b] := by
  unfold resV; split <;> exact ⟨_, _, _, _, _, _, rfl⟩
/-- The reference's words. -/
theorem po_words {s : ByteArray} {r : Res} (h : isR s r) : s.size ≤ 100 ∧ ∃ p0 p1 p2 w0 w1 w2 w3, spB 44 s = [p0, p1, p2] ∧ 2 ≤ w0.size ∧ (∀ m, w0.size = m + 1 → w0.extract 0 m = r.motion) ∧ rdI w1 = r.yes ∧ rdI w3 = r.no ∧
    ((spB 32 p0 = [w0, w1, w2, w3] ∧ r.abst = 0) ∨ ∃ w4 w5 w6, spB 32 p0 = [w0, w1, w2, w3, w4, w5, w6] ∧ rdI w5 = r.abst) := by
  obtain ⟨hr, rfl⟩ := h
  obtain ⟨a1, a2, a3, a4, a5, a6, a7, a8⟩ := resB_bd' hr
  have hm := wordB_size (resB_word hr)
  refine ⟨line_size100 hr, _, _, _, r.motion ++ (⟨#[58]⟩ : ByteArray), numS r.yes, (⟨#[116, 111]⟩ : ByteArray), numS r.no, line_parts hr, ?_, fun m hm => cutApp _ 58 hm, (rdI_numS a1 a2).1, (rdI_numS a3 a4).1, ?_⟩
  · have : ((⟨#[58]⟩ : ByteArray) : ByteArray).size = 1 := rfl
    rw [ByteArray.size_append]; omega
  · rw [head_words hr, votS_spB _ _ _ a1 a3 a5]
    by_cases h0 : 0 < r.abst
    · rw [if_pos h0]; exact .inr ⟨_, _, _, rfl, (rdI_numS a5 a6).1⟩
    · rw [if_neg h0]; exact .inl ⟨rfl, by omega⟩
end Go.Proofs.YtbnncgahepcfnaaGreatDoor
/- A report read from its lines: plain law. -/
namespace Go.G9
open Go.RowKit
def jn (c : UInt8) : List (List UInt8) → List UInt8
  | [] => []
  | [u] => u
  | u :: v :: r => u ++ c :: jn c (v :: r)
theorem jn_cons {c : UInt8} {u : List UInt8} {r : List (List UInt8)} (h : r ≠ []) : jn c (u :: r) = u ++ c :: jn c r := by
  cases r with
  | nil => exact absurd rfl h
  | cons v r => rfl
theorem jn_head {c x : UInt8} {u : List UInt8} {r : List (List UInt8)} : jn c ((x :: u) :: r) = x :: jn c (u :: r) := by
  cases r <;> rfl
theorem jn_spl (c : UInt8) : ∀ l : List UInt8, jn c (spl c l) = l
  | [] => rfl
  | x :: l => by
    have ih := jn_spl c l
    unfold spl
    split
    · rename_i h
      rw [jn_cons (spl_ne c l), ih]
      have : x = c := by simpa using h
      rw [this]; rfl
    · split
      · rename_i h; exact absurd h (spl_ne c l)
      · rename_i w ws hw
        rw [hw] at ih
        rw [jn_head, ih]
def nls (c : UInt8) : List (List UInt8) → List UInt8
  | [] => []
  | u :: r => u ++ c :: nls c r
theorem jn_end (c : UInt8) : ∀ ls : List (List UInt8), jn c (ls ++ [[]]) = nls c ls
  | [] => rfl
  | u :: r => by
    show jn c (u :: (r ++ [[]])) = _
    rw [jn_cons (by simp), jn_end c r]; rfl
theorem spl_nls {c : UInt8} : ∀ {ls : List (List UInt8)}, (∀ u ∈ ls, ∀ x ∈ u, (x == c) = false) → spl c (nls c ls) = ls ++ [[]]
  | [], _ => rfl
  | u :: r, h => by
    show spl c (u ++ c :: nls c r) = _
    rw [spl_sep (h u (by simp)), spl_nls (fun v hv => h v (by simp [hv]))]; rfl
theorem nls_app (c : UInt8) : ∀ (ls : List (List UInt8)) (u : List UInt8), nls c (ls ++ [u]) = nls c ls ++ (u ++ [c])
  | [], u => by simp [nls]
  | v :: r, u => by
    show v ++ c :: nls c (r ++ [u]) = _
    rw [nls_app c r u]; simp [nls]
end Go.G9
namespace Go.Proofs.YtbnncgahepcfnaaGreatDoor
open Go.RowKit Go.G9
theorem line_size73 {r : Res} (h : resB r = true) : r.line.size ≤ 73 := by
  obtain ⟨a1, a2, a3, a4, a5, a6, a7, a8⟩ := resB_bd' h
  have hm := wordB_size (resB_word h)
  have n1 := numS_size4 a1 a2
  have n2 := numS_size4 a3 a4
  have n3 := numS_size4 a5 a6
  have h2 := phrase_size r.need
  have e1 : ((⟨#[58, 32]⟩ : ByteArray) : ByteArray).size = 2 := rfl
  have e2 : ((⟨#[44, 32, 110, 101, 101, 100, 115, 32]⟩ : ByteArray) : ByteArray).size = 8 := rfl
  have e3 : ((⟨#[44, 32]⟩ : ByteArray) : ByteArray).size = 2 := rfl
  have f1 : ((⟨#[32, 116, 111, 32]⟩ : ByteArray) : ByteArray).size = 4 := rfl
  have f2 : ((⟨#[32, 119, 105, 116, 104, 32]⟩ : ByteArray) : ByteArray).size = 6 := rfl
  have f3 : ((⟨#[32, 97, 98, 115, 116, 97, 105, 110, 105, 110, 103]⟩ : ByteArray) : ByteArray).size = 11 := rfl
  have hv : (votS r.yes r.no r.abst).size ≤ 33 := by
    unfold votS
    split <;> simp only [ByteArray.size_append] <;> omega
  have ha : (adoS r).size ≤ 8 := by unfold adoS; split <;> decide
  rw [line_eq]
  simp only [ByteArray.size_append]
  omega
theorem votS_n10 (y n a : Int) (hy : 0 ≤ y) (hn : 0 ≤ n) (ha : 0 ≤ a) : ∀ x ∈ (votS y n a).data.toList, (x == 10) = false := by
  have k1 := numS_nc hy (d := 10) (by decide)
  have k2 := numS_nc hn (d := 10) (by decide)
  have k3 := numS_nc ha (d := 10) (by decide)
  have e1 : ∀ x ∈ ((⟨#[32, 116, 111, 32]⟩ : ByteArray) : ByteArray).data.toList, (x == 10) = false := by decide
  have e2 : ∀ x ∈ ((⟨#[32, 119, 105, 116, 104, 32]⟩ : ByteArray) : ByteArray).data.toList, (x == 10) = false := by decide
  have e3 : ∀ x ∈ ((⟨#[32, 97, 98, 115, 116, 97, 105, 110, 105, 110, 103]⟩ : ByteArray) : ByteArray).data.toList, (x == 10) = false := by decide
  unfold votS
  intro x hx
  split at hx
  · simp only [app_list, List.mem_append] at hx
    rcases hx with ((hx | hx) | hx) | ((hx | hx) | hx)
    all_goals first | exact k1 x hx | exact e1 x hx | exact k2 x hx | exact e2 x hx | exact k3 x hx | exact e3 x hx
  · simp only [app_list, List.mem_append] at hx
    rcases hx with (hx | hx) | hx
    all_goals first | exact k1 x hx | exact e1 x hx | exact k2 x hx
theorem phr_n10 (n : Int) : ∀ x ∈ (phrase n).data.toList, (x == 10) = false := by
  unfold phrase; split
  · decide
  · split <;> decide
theorem adoS_n10 (r : Res) : ∀ x ∈ (adoS r).data.toList, (x == 10) = false := by
  unfold adoS; split <;> decide
theorem line_n10 {r : Res} (h : resB r = true) : ∀ x ∈ r.line.data.toList, (x == 10) = false := by
  obtain ⟨a1, a2, a3, a4, a5, a6, a7, a8⟩ := resB_bd' h
  have k1 := low_nc (resB_word h) (c := 10) (by decide)
  have k2 := votS_n10 r.yes r.no r.abst a1 a3 a5
  have k3 := phr_n10 r.need
  have k4 := adoS_n10 r
  have e1 : ∀ x ∈ ((⟨#[58, 32]⟩ : ByteArray) : ByteArray).data.toList, (x == 10) = false := by decide
  have e2 : ∀ x ∈ ((⟨#[44, 32, 110, 101, 101, 100, 115, 32]⟩ : ByteArray) : ByteArray).data.toList, (x == 10) = false := by decide
  have e3 : ∀ x ∈ ((⟨#[44, 32]⟩ : ByteArray) : ByteArray).data.toList, (x == 10) = false := by decide
  intro x hx
  rw [line_eq] at hx
  simp only [app_list, List.mem_append] at hx
  rcases hx with (hx | hx) | ((hx | hx) | ((hx | hx) | hx))
  all_goals first | exact k1 x hx | exact e1 x hx | exact k2 x hx | exact e2 x hx | exact k3 x hx | exact e3 x hx | exact k4 x hx
theorem repTo_list (xs : List Res) : ∀ k, k ≤ xs.length → (repTo xs k).data.toList = nls 10 ((xs.take k).map fun r => r.line.data.toList)
  | 0, _ => rfl
  | k + 1, h => by
    have ih := repTo_list xs k (by omega)
    have hk : xs[k]? = some xs[k] := List.getElem?_eq_getElem (by omega)
    have hs : repTo xs (k + 1) = repTo xs k ++ (xs[k].line ++ (⟨#[10]⟩ : ByteArray)) := by rw [repTo, hk]
    rw [hs, app_list, app_list, ih, List.take_succ_eq_append_getElem (by omega), List.map_append, List.map_cons, List.map_nil, nls_app]
theorem repTxt_list (xs : List Res) : (repTxt xs).data.toList = nls 10 (xs.map fun r => r.line.data.toList) := by
  have := repTo_list xs xs.length (Nat.le_refl _)
  rwa [List.take_length] at this
def isRep (s : ByteArray) (xs : List Res) : Prop := reportB xs = true ∧ repTxt xs = s
theorem reportB_mem {xs : List Res} (h : reportB xs = true) : ∀ x ∈ xs, resB x = true := by
  intro x hx
  obtain ⟨k, hk⟩ := List.mem_iff_getElem?.1 hx
  exact reportB_at h hk
theorem rep_lines {s : ByteArray} {xs : List Res} (h : isRep s xs) : spB 10 s = xs.map Res.line ++ [⟨#[]⟩] := by
  obtain ⟨h1, rfl⟩ := h
  unfold spB
  rw [repTxt_list, spl_nls (fun u hu x hx => by
    obtain ⟨r, hr, rfl⟩ := List.mem_map.1 hu
    exact line_n10 (reportB_mem h1 r hr) x hx), List.map_append, List.map_map]
  congr 1
theorem rep_of {s : ByteArray} {xs : List Res} (hB : reportB xs = true) (h : spB 10 s = xs.map Res.line ++ [⟨#[]⟩]) : isRep s xs := by
  refine ⟨hB, ba_ext ?_⟩
  have h1 : spl 10 s.data.toList = (xs.map fun r => r.line.data.toList) ++ [[]] := by
    have h2 := congrArg (List.map fun b : ByteArray => b.data.toList) h
    unfold spB at h2
    rw [List.map_map, List.map_append, List.map_map] at h2
    have h3 : ((fun b : ByteArray => b.data.toList) ∘ bz) = id := by funext l; exact bz_list l
    rw [h3, List.map_id] at h2
    exact h2
  rw [repTxt_list, ← jn_end, ← h1, jn_spl]
theorem lines_inj : ∀ {xs ys : List Res}, (∀ x ∈ xs, resB x = true) → (∀ x ∈ ys, resB x = true) → xs.map Res.line = ys.map Res.line → xs = ys
  | [], [], _, _, _ => rfl
  | [], _ :: _, _, _, h => by simp at h
  | _ :: _, [], _, _, h => by simp at h
  | x :: xs, y :: ys, hx, hy, h => by
    simp only [List.map_cons, List.cons.injEq] at h
    rw [isR_uniq (s := y.line) ⟨hx x (by simp), h.1⟩ ⟨hy y (by simp), rfl⟩, lines_inj (fun z hz => hx z (by simp [hz])) (fun z hz => hy z (by simp [hz])) h.2]
def Got (s : ByteArray) (k : Nat) (ys : List Res) : Prop := (∀ x ∈ ys, resB x = true) ∧ ys.map Res.line = (spB 10 s).take k
theorem got_zero (s : ByteArray) : Got s 0 [] := ⟨by simp, rfl⟩
theorem got_len {s : ByteArray} {k : Nat} {ys : List Res} (h : Got s k ys) (hk : k ≤ (spB 10 s).length) : ys.length = k := by
  have := congrArg List.length h.2
  rw [List.length_map, List.length_take] at this; omega
theorem got_step {s l : ByteArray} {k : Nat} {ys : List Res} {r : Res} (h : Got s k ys) (hl : (spB 10 s)[k]? = some l) (hr : poO l = some r) : Got s (k + 1) (ys ++ [r]) := by
  obtain ⟨h1, h2⟩ := poO_is hr
  have hk := (List.getElem?_eq_some_iff.1 hl).1
  refine ⟨fun x hx => ?_, ?_⟩
  · rcases List.mem_append.1 hx with hx | hx
    · exact h.1 x hx
    · simp at hx; subst hx; exact h1
  · rw [List.map_append, h.2, List.take_succ_eq_append_getElem hk, (List.getElem?_eq_some_iff.1 hl).2]
    simp [h2]
theorem got_bad {s l : ByteArray} {k : Nat} (hl : (spB 10 s)[k]? = some l) (hk : k + 1 < (spB 10 s).length) (hr : poO l = none) : ¬ ∃ xs, isRep s xs := by
  rintro ⟨xs, h⟩
  have e := rep_lines h
  have hn : xs.length + 1 = (spB 10 s).length := by rw [e]; simp
  have hx : k < xs.length := by omega
  rw [e, List.getElem?_append_left (by simpa using hx), List.getElem?_map, List.getElem?_eq_getElem hx] at hl
  simp only [Option.map_some, Option.some.injEq] at hl
  rw [poO_yes ⟨reportB_mem h.1 _ (List.getElem_mem hx), hl⟩] at hr
  cases hr
theorem got_all {s : ByteArray} {n : Nat} {ys xs : List Res} (hn : (spB 10 s).length = n + 1) (h : Got s n ys) (hx : isRep s xs) : xs = ys := by
  refine lines_inj (reportB_mem hx.1) h.1 ?_
  have e := rep_lines hx
  have hl : xs.length = n := by have := congrArg List.length e; simp at this; omega
  rw [h.2, e, List.take_append_of_le_length (by simp; omega), List.take_of_length_le (by simp; omega)]
theorem got_end {s : ByteArray} {n : Nat} {ys : List Res} (hn : (spB 10 s).length = n + 1) (h : Got s n ys) (hl : (spB 10 s)[n]? = some ⟨#[]⟩) (hB : reportB ys = true) : isRep s ys := by
  refine rep_of hB ?_
  rw [h.2]
  have hlt : n < (spB 10 s).length := by omega
  have h2 := List.take_succ_eq_append_getElem hlt
  rw [(List.getElem?_eq_some_iff.1 hl).2, List.take_of_length_le (by omega)] at h2
  exact h2
theorem rep_last {s l : ByteArray} {n : Nat} (hn : (spB 10 s).length = n + 1) (hl : (spB 10 s)[n]? = some l) (h : l ≠ ⟨#[]⟩) : ¬ ∃ xs, isRep s xs := by
  rintro ⟨xs, hx⟩
  have e := rep_lines hx
  have hc : xs.length = n := by have := congrArg List.length e; simp at this; omega
  rw [e, List.getElem?_append_right (by simp; omega)] at hl
  simp [hc] at hl
  exact h hl.symm
theorem rep_few {s : ByteArray} {xs : List Res} (h : isRep s xs) : xs.length + 1 = (spB 10 s).length ∧ xs.length ≤ 12 := ⟨by rw [rep_lines h]; simp, reportB_len h.1⟩
theorem repTo_size74 {xs : List Res} (h : reportB xs = true) : ∀ k, (repTo xs k).size ≤ 74 * k
  | 0 => Nat.le_refl _
  | k + 1 => by
    have ih := repTo_size74 h k
    unfold repTo
    split
    · rename_i r hr
      have := line_size73 (reportB_at h hr)
      have e : ((⟨#[10]⟩ : ByteArray)).size = 1 := rfl
      simp only [ByteArray.size_append]; omega
    · omega
theorem rep_size {s : ByteArray} {xs : List Res} (h : isRep s xs) : s.size ≤ 1000 := by
  have h1 := repTo_size74 h.1 xs.length
  have h2 := reportB_len h.1
  have h3 : (repTxt xs).size = s.size := by rw [h.2]
  unfold repTxt at h3; omega
open Classical in
noncomputable def prO (s : ByteArray) : Option (List Res) := if h : ∃ r, isRep s r then some (Classical.choose h) else none
theorem isRep_uniq {s : ByteArray} {xs ys : List Res} (h : isRep s xs) (k : isRep s ys) : xs = ys := by
  have e := (rep_lines h).symm.trans (rep_lines k)
  exact lines_inj (reportB_mem h.1) (reportB_mem k.1) (List.append_cancel_right e)
theorem prO_yes {s : ByteArray} {r : List Res} (h : isRep s r) : prO s = some r := by
  have hx : ∃ n, isRep s n := ⟨r, h⟩
  rw [prO, dif_pos hx, isRep_uniq (Classical.choose_spec hx) h]
theorem prO_no {s : ByteArray} (h : ¬ ∃ n, isRep s n) : prO s = none := by rw [prO, dif_neg h]
noncomputable def prL (s : ByteArray) : List Res := (prO s).getD []
noncomputable def prB (s : ByteArray) : Bool := (prO s).isSome
theorem prL_yes {s : ByteArray} {r : List Res} (h : isRep s r) : prL s = r ∧ prB s = true := by rw [prL, prB, prO_yes h]; exact ⟨rfl, rfl⟩
theorem prL_no {s : ByteArray} (h : ¬ ∃ n, isRep s n) : prL s = [] ∧ prB s = false := by rw [prL, prB, prO_no h]; exact ⟨rfl, rfl⟩
theorem prL_len (s : ByteArray) : (prL s).length ≤ 1048576 := by
  by_cases h : ∃ n, isRep s n
  · obtain ⟨r, hr⟩ := h
    rw [(prL_yes hr).1]; have := reportB_len hr.1; omega
  · rw [(prL_no h).1]; simp
end Go.Proofs.YtbnncgahepcfnaaGreatDoor
