/- The words of a notice's text. -/
import Derived.Test.YtbnncgahepcfnaaDoorSpl
import Derived.Test.YtbnncgahepcfnaaDoorTxn
namespace Go.Proofs.YtbnncgahepcfnaaDoor
open Go.RowKit Go.G9
theorem dig_ns {c : UInt8} (h : digB c = true) : (c == 32) = false := by
  simp only [digB, Bool.and_eq_true, decide_eq_true_eq] at h
  rw [beq_eq_false_iff_ne]; intro e; subst e; simp at h
theorem numS_ns (v : Int) (h : 0 ≤ v) : ∀ x ∈ (numS v).data.toList, (x == 32) = false := by
  show ∀ x ∈ Lib.itoa v, _
  unfold Lib.itoa
  rw [if_neg (by omega)]
  exact fun x hx => dig_ns ((dec_spec v.toNat).2.1 x hx)
theorem low_ns {s : ByteArray} (h : wordB s = true) : ∀ x ∈ s.data.toList, (x == 32) = false := by
  simp only [wordB, Bool.and_eq_true] at h
  intro x hx
  have h1 := h.1
  simp only [lowB, List.all_eq_true] at h1
  have := h1 x hx
  rw [beq_eq_false_iff_ne]; intro e; subst e
  simp at this
theorem app_list (a b : ByteArray) : (a ++ b).data.toList = a.data.toList ++ b.data.toList := by
  simp
def lastW (n : Ntc) : ByteArray := if n.days = 1 then (⟨#[100, 97, 121]⟩ : ByteArray) else (⟨#[100, 97, 121, 115]⟩ : ByteArray)
theorem txt_list (n : Ntc) : n.txt.data.toList = [110, 111, 116, 105, 99, 101] ++ 32 :: (((numS n.id).data.toList ++ [58]) ++ 32 :: (n.topic.data.toList ++ 32 :: ([103, 105, 118, 101, 110] ++ 32 :: ([111, 110] ++ 32 :: ([100, 97, 121] ++ 32 :: (((numS n.given).data.toList ++ [44]) ++ 32 :: ((numS n.days).data.toList ++ 32 :: (lastW n).data.toList))))))) := by
  unfold Ntc.txt Ntc.head lastW
  split <;> simp
theorem ntc_words (n : Ntc) (h : noticeB n = true) : spB 32 n.txt = [(⟨#[110, 111, 116, 105, 99, 101]⟩ : ByteArray), numS n.id ++ (⟨#[58]⟩ : ByteArray), n.topic, (⟨#[103, 105, 118, 101, 110]⟩ : ByteArray), (⟨#[111, 110]⟩ : ByteArray), (⟨#[100, 97, 121]⟩ : ByteArray), numS n.given ++ (⟨#[44]⟩ : ByteArray), numS n.days, lastW n] := by
  obtain ⟨h1, _, _, h4, _, h6, _⟩ := noticeB_bd h
  have hw : wordB n.topic = true := by simp only [noticeB, Bool.and_eq_true] at h; exact h.2.1
  have a1 := numS_ns n.id (by omega)
  have a2 := low_ns hw
  have a3 := numS_ns n.given h4
  have a4 := numS_ns n.days h6
  have a5 : ∀ x ∈ (lastW n).data.toList, (x == 32) = false := by
    unfold lastW; split <;> decide
  have b1 : ∀ x ∈ (numS n.id).data.toList ++ [58], (x == 32) = false := fun x hx => by
    simp only [List.mem_append, List.mem_singleton] at hx
    rcases hx with hx | rfl
    · exact a1 x hx
    · rfl
  have b3 : ∀ x ∈ (numS n.given).data.toList ++ [44], (x == 32) = false := fun x hx => by
    simp only [List.mem_append, List.mem_singleton] at hx
    rcases hx with hx | rfl
    · exact a3 x hx
    · rfl
  unfold spB
  rw [txt_list, spl_sep (by decide), spl_sep b1, spl_sep a2, spl_sep (by decide), spl_sep (by decide), spl_sep (by decide), spl_sep b3, spl_sep a4, spl_none a5]
  have e : ∀ s : ByteArray, bz s.data.toList = s := bz_data
  simp only [List.map_cons, List.map_nil, e]
  have e2 : ∀ (s : ByteArray) (c : UInt8), bz (s.data.toList ++ [c]) = s ++ ⟨#[c]⟩ := fun s c => by
    rw [← bz_data (s ++ ⟨#[c]⟩), app_list]
  rw [e2, e2]
  rfl
end Go.Proofs.YtbnncgahepcfnaaDoor
