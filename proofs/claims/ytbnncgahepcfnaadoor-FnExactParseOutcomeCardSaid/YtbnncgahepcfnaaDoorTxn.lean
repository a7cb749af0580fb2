/- The text of a notice. -/
import Derived.Test.YtbnncgahepcfnaaDoorItoa
import Derived.Test.YtbnncgahepcfnaaDoorNtc
namespace Go.Proofs.YtbnncgahepcfnaaDoor
open Go.RowKit Go.G9
def Ntc.head (n : Ntc) : ByteArray := (⟨#[110, 111, 116, 105, 99, 101, 32]⟩ : ByteArray) ++ numS n.id ++ (⟨#[58, 32]⟩ : ByteArray) ++ n.topic ++ (⟨#[32, 103, 105, 118, 101, 110, 32, 111, 110, 32, 100, 97, 121, 32]⟩ : ByteArray) ++ numS n.given ++ (⟨#[44, 32]⟩ : ByteArray) ++ numS n.days
def Ntc.txt (n : Ntc) : ByteArray := if n.days = 1 then n.head ++ (⟨#[32, 100, 97, 121]⟩ : ByteArray) else n.head ++ (⟨#[32, 100, 97, 121, 115]⟩ : ByteArray)
theorem noticeB_bd {n : Ntc} (h : noticeB n = true) : 1 ≤ n.id ∧ n.id ≤ 99 ∧ n.topic.size ≤ 10 ∧ 0 ≤ n.given ∧ n.given ≤ 3650 ∧ 0 ≤ n.days ∧ n.days ≤ 60 := by
  simp [noticeB, wordB, inB] at h
  omega
set_option maxHeartbeats 1000000 in
theorem noticeText_is (id g d : Int) (s : ByteArray) (hs : s.size ≤ maxLen) (hv : noticeB ⟨id, s, g, d, hs⟩ = true) (w : World) (hT : Tab w) :
  Calls Tryd.prog 74 #[.agg #[.int .i64 id, .string s, .int .i64 g, .int .i64 d]] w fun e w' => e = .returned (.string (Ntc.txt ⟨id, s, g, d, hs⟩)) ∧ Below w.heap.size w w' := by
  obtain ⟨h1, h2, h3, h4, h5, h6, h7⟩ := noticeB_bd hv
  simp only at h1 h2 h3 h4 h5 h6 h7
  clear hv
  have HT := Lib.hid (hT.below (bl1 w (.cells #[.int .i64 id, .string s, .int .i64 g, .int .i64 d] 55)))
  have n1 := numS_size id (by omega)
  have n2 := numS_size g (by omega)
  have n3 := numS_size d (by omega)
  have b0 := boxed w #[.int .i64 id, .string s, .int .i64 g, .int .i64 d] 55 0 _ rfl
  have b1 := boxed w #[.int .i64 id, .string s, .int .i64 g, .int .i64 d] 55 1 _ rfl
  have b2 := boxed w #[.int .i64 id, .string s, .int .i64 g, .int .i64 d] 55 2 _ rfl
  have b3 := boxed w #[.int .i64 id, .string s, .int .i64 g, .int .i64 d] 55 3 _ rfl
  by_cases hd : d = 1
  · have hd1 : (d == 1) = true := beq_iff_eq.2 hd
    have HD := Lib.hid hd; clear hd
    go_enter Tryd.func74, Tryd.ntmps74
    go_wp2
    refine wp_region_kin (by kernel_rfl) (by kernel_rfl) ?_
    repeat (go_big_quiet_step ((first | (go_at_call 53; exact Kin.call _ (by first | exact Nat.le_refl _ | omega) (itoa_is _ (by omega) (by omega) _ (HT.out.below (Kin.below _)))))))
    refine wpQuiet_nil ?_
    intro K
    have c3 := b3 K
    go_wp2
    go_ret
    exact ⟨by rw [Ntc.txt, if_pos HD.out]; rfl, bth (bl1 _ _) K.below⟩
  · have hd1 : (d == 1) = false := beq_eq_false_iff_ne.2 hd
    have HD := Lib.hid hd; clear hd
    go_enter Tryd.func74, Tryd.ntmps74
    go_wp2
    refine wp_region_kin (by kernel_rfl) (by kernel_rfl) ?_
    repeat (go_big_quiet_step ((first | (go_at_call 53; exact Kin.call _ (by first | exact Nat.le_refl _ | omega) (itoa_is _ (by omega) (by omega) _ (HT.out.below (Kin.below _)))))))
    refine wpQuiet_nil ?_
    intro K
    have c3 := b3 K
    go_wp2
    go_ret
    refine ⟨?_, bth (bl1 _ _) K.below⟩
    show Ending.returned (Value.string (Ntc.head ⟨id, s, g, d, hs⟩ ++ (⟨#[32, 100, 97, 121]⟩ : ByteArray) ++ (⟨#[115]⟩ : ByteArray))) = _
    rw [Ntc.txt, if_neg HD.out, ByteArray.append_assoc]
    rfl
set_option maxHeartbeats 1000000 in
theorem l24Text_is (id g d : Int) (s : ByteArray) (hs : s.size ≤ maxLen) (hv : noticeB ⟨id, s, g, d, hs⟩ = true) (w : World) :
  Calls Tryd.prog 69 #[.agg #[.int .i64 id, .string s, .int .i64 g, .int .i64 d]] w fun e w' => e = .returned (.string (Ntc.txt ⟨id, s, g, d, hs⟩)) ∧ Below w.heap.size w w' := by
  obtain ⟨h1, h2, h3, h4, h5, h6, h7⟩ := noticeB_bd hv
  simp only at h1 h2 h3 h4 h5 h6 h7
  clear hv
  have n1 := numS_size id (by omega)
  have n2 := numS_size g (by omega)
  have n3 := numS_size d (by omega)
  have b0 := boxed w #[.int .i64 id, .string s, .int .i64 g, .int .i64 d] 55 0 _ rfl
  have b1 := boxed w #[.int .i64 id, .string s, .int .i64 g, .int .i64 d] 55 1 _ rfl
  have b2 := boxed w #[.int .i64 id, .string s, .int .i64 g, .int .i64 d] 55 2 _ rfl
  have b3 := boxed w #[.int .i64 id, .string s, .int .i64 g, .int .i64 d] 55 3 _ rfl
  by_cases hd : d = 1
  · have hd1 : (d == 1) = true := beq_iff_eq.2 hd
    have HD := Lib.hid hd; clear hd
    go_enter Tryd.func69, Tryd.ntmps69
    go_wp2
    refine wp_region_kin (by kernel_rfl) (by kernel_rfl) ?_
    repeat (go_big_quiet_step ((first | (go_at_call 52; exact Kin.call _ (by first | exact Nat.le_refl _ | omega) (l1Num_is _ (by omega) (by omega) _)))))
    refine wpQuiet_nil ?_
    intro K
    have c3 := b3 K
    go_wp2
    go_ret
    exact ⟨by rw [Ntc.txt, if_pos HD.out]; rfl, bth (bl1 _ _) K.below⟩
  · have hd1 : (d == 1) = false := beq_eq_false_iff_ne.2 hd
    have HD := Lib.hid hd; clear hd
    go_enter Tryd.func69, Tryd.ntmps69
    go_wp2
    refine wp_region_kin (by kernel_rfl) (by kernel_rfl) ?_
    repeat (go_big_quiet_step ((first | (go_at_call 52; exact Kin.call _ (by first | exact Nat.le_refl _ | omega) (l1Num_is _ (by omega) (by omega) _)))))
    refine wpQuiet_nil ?_
    intro K
    have c3 := b3 K
    go_wp2
    go_ret
    exact ⟨by rw [Ntc.txt, if_neg HD.out]; rfl, bth (bl1 _ _) K.below⟩
def ntOut (n : Ntc) : Value := if noticeB n then .tuple #[.string n.txt, .bool true] else .tuple #[.string ⟨#[]⟩, .bool false]
theorem ntOut_form (n : Ntc) : ∃ s b, ntOut n = .tuple #[.string s, .bool b] := by unfold ntOut; split <;> exact ⟨_, _, rfl⟩
end Go.Proofs.YtbnncgahepcfnaaDoor
