/- The words of a notice's text. -/
import Derived.Test.YtbnncgahepcfnaaGreatDoorNo12
import Derived.Test.YtbnncgahepcfnaaGreatDoorNo7
import Derived.Test.YtbnncgahepcfnaaGreatDoorNo6
namespace Go.Proofs.YtbnncgahepcfnaaGreatDoor
open Go.RowKit Go.G9
theorem dig_ns {c : UInt8} (h : digB c = true) : (c == 32) = false := by
  simp only [digB, Bool.and_eq_true, decide_eq_true_eq] at h
  rw [beq_eq_false_iff_ne]; intro e; subst e; simp at h
theorem numS_ns (v : Int) (h : 0 ≤ v) : ∀ x ∈ (numS v).data.toList, (x == 32) = false := by
  show ∀ x ∈ Lib.itoa v, _
  unfold Lib.itoa
  rw [if_neg (by omega)]
  exact fun x hx => dig_ns ((dec_spec v.toNat).2.1 x hx)
theorem low_ns {s : ByteArray} (h : wordB s = true) : ∀ x ∈ s.data.toList, (x == 32) = false := by
  simp only [wordB, Bool.and_eq_true] at h
  intro x hx
  have h1 := h.1
  simp only [lowB, List.all_eq_true] at h1
  have := h1 x hx
  rw [beq_eq_false_iff_ne]; intro e; subst e
  simp at this
theorem app_list (a b : ByteArray) : (a ++ b).data.toList = a.data.toList ++ b.data.toList := by
  simp
def lastW (n : Ntc) : ByteArray := if n.days = 1 then (⟨#[100, 97, 121]⟩ : ByteArray) else (⟨#[100, 97, 121, 115]⟩ : ByteArray)
theorem txt_list (n : Ntc) : n.txt.data.toList = [110, 111, 116, 105, 99, 101] ++ 32 :: (((numS n.id).data.toList ++ [58]) ++ 32 :: (n.topic.data.toList ++ 32 :: ([103, 105, 118, 101, 110] ++ 32 :: ([111, 110] ++ 32 :: ([100, 97, 121] ++ 32 :: (((numS n.given).data.toList ++ [44]) ++ 32 :: ((numS n.days).data.toList ++ 32 :: (lastW n).data.toList))))))) := by
  unfold Ntc.txt Ntc.head lastW
  split <;> simp
theorem ntc_words (n : Ntc) (h : noticeB n = true) : spB 32 n.txt = [(⟨#[110, 111, 116, 105, 99, 101]⟩ : ByteArray), numS n.id ++ (⟨#[58]⟩ : ByteArray), n.topic, (⟨#[103, 105, 118, 101, 110]⟩ : ByteArray), (⟨#[111, 110]⟩ : ByteArray), (⟨#[100, 97, 121]⟩ : ByteArray), numS n.given ++ (⟨#[44]⟩ : ByteArray), numS n.days, lastW n] := by
  obtain ⟨h1, _, _, h4, _, h6, _⟩ := noticeB_bd h
  have hw : wordB n.topic = true := by simp only [noticeB, Bool.and_eq_true] at h; exact h.2.1
  have a1 := numS_ns n.id (by omega)
  have a2 := low_ns hw
  have a3 := numS_ns n.given h4
  have a4 := numS_ns n.days h6
  have a5 : ∀ x ∈ (lastW n).data.toList, (x == 32) = false := by
    unfold lastW; split <;> decide
  have b1 : ∀ x ∈ (numS n.id).data.toList ++ [58], (x == 32) = false := fun x hx => by
    simp only [List.mem_append, List.mem_singleton] at hx
    rcases hx with hx | rfl
    · exact a1 x hx
    · rfl
  have b3 : ∀ x ∈ (numS n.given).data.toList ++ [44], (x == 32) = false := fun x hx => by
    simp only [List.mem_append, List.mem_singleton] at hx
    rcases hx with hx | rfl
    · exact a3 x hx
    · rfl
  unfold spB
  rw [txt_list, spl_sep (by decide), spl_sep b1, spl_sep a2, spl_sep (by decide), spl_sep (by decide), spl_sep (by decide), spl_sep b3, spl_sep a4, spl_none a5]
  have e : ∀ s : ByteArray, bz s.data.toList = s := bz_data
  simp only [List.map_cons, List.map_nil, e]
  have e2 : ∀ (s : ByteArray) (c : UInt8), bz (s.data.toList ++ [c]) = s ++ ⟨#[c]⟩ := fun s c => by
    rw [← bz_data (s ++ ⟨#[c]⟩), app_list]
  rw [e2, e2]
  rfl
end Go.Proofs.YtbnncgahepcfnaaGreatDoor
/- A notice read from its text: plain law. -/
namespace Go.Proofs.YtbnncgahepcfnaaGreatDoor
open Go.RowKit Go.G9
theorem spl_mem (c : UInt8) : ∀ (l : List UInt8), ∀ u ∈ spl c l, u.length ≤ l.length
  | [], u, h => by simp [spl] at h; subst h; simp
  | x :: l, u, h => by
    have ih := spl_mem c l
    unfold spl at h
    split at h
    · rcases List.mem_cons.1 h with rfl | h
      · simp
      · have := ih u h; simp; omega
    · split at h
      · simp at h; subst h; simp
      · rename_i w ws hw
        rcases List.mem_cons.1 h with rfl | h
        · have := ih w (by rw [hw]; simp); simp; omega
        · have := ih u (by rw [hw]; simp [h]); simp; omega
def trm (s : ByteArray) (c : UInt8) : ByteArray := ⟨(Lib.trimSuffix s.data.toList [c]).toArray⟩
theorem trm_app (s : ByteArray) (c : UInt8) : trm (s ++ ⟨#[c]⟩) c = s := by
  apply ba_ext
  show (Lib.trimSuffix (s ++ ⟨#[c]⟩).data.toList [c]).toArray.toList = s.data.toList
  rw [app_list]
  have hs : Lib.hasSuffix (s.data.toList ++ [c]) [c] = true := by simp [Lib.hasSuffix]
  simp [Lib.trimSuffix, hs]
theorem trm_size (s : ByteArray) (c : UInt8) : (trm s c).size ≤ s.size := by
  show (Lib.trimSuffix s.data.toList [c]).toArray.size ≤ s.size
  have h : s.data.toList.length = s.size := by simp
  rw [List.size_toArray]
  unfold Lib.trimSuffix
  split
  · rw [List.length_take]; omega
  · omega
theorem spB_size {c : UInt8} {s x : ByteArray} {k : Nat} (h : (spB c s)[k]? = some x) : x.size ≤ s.size := by
  have hm := List.mem_of_getElem? h
  unfold spB at hm
  obtain ⟨u, hu, rfl⟩ := List.mem_map.1 hm
  have h1 := spl_mem c _ u hu
  have h2 : s.data.toList.length = s.size := by simp
  show u.toArray.size ≤ s.size
  rw [List.size_toArray]; omega
theorem rdOut_numS (v : Int) (h0 : -999999 ≤ v) (h1 : v ≤ 999999) : rdOut (numS v) = .tuple #[.int .i64 v, .bool true] := by
  obtain ⟨a, b⟩ := rd_numS v h0 h1
  rw [rdOut, a, b]; rfl
theorem numS_inj {a b : Int} (h : numS a = numS b) (a0 : -999999 ≤ a) (a1 : a ≤ 999999) (b0 : -999999 ≤ b) (b1 : b ≤ 999999) : a = b := by
  have h1 := (rd_numS a a0 a1).2
  rw [h, (rd_numS b b0 b1).2] at h1; exact h1.symm
def isT (s : ByteArray) (n : Ntc) : Prop := noticeB n = true ∧ n.txt = s
theorem isT_uniq {s : ByteArray} {n m : Ntc} (h : isT s n) (k : isT s m) : n.id = m.id ∧ n.topic = m.topic ∧ n.given = m.given ∧ n.days = m.days := by
  have w1 := ntc_words n h.1
  have w2 := ntc_words m k.1
  rw [h.2, ← k.2, w2] at w1
  obtain ⟨a1, a2, _, a4, a5, a6, a7⟩ := noticeB_bd h.1
  obtain ⟨b1, b2, _, b4, b5, b6, b7⟩ := noticeB_bd k.1
  simp only [List.cons.injEq, true_and, and_true] at w1
  obtain ⟨e1, e2, e3, e4, _⟩ := w1
  have f1 : numS m.id = numS n.id := by have := congrArg (trm · 58) e1; simpa [trm_app] using this
  have f3 : numS m.given = numS n.given := by have := congrArg (trm · 44) e3; simpa [trm_app] using this
  exact ⟨(numS_inj f1 (by omega) (by omega) (by omega) (by omega)).symm, e2.symm, (numS_inj f3 (by omega) (by omega) (by omega) (by omega)).symm, (numS_inj e4 (by omega) (by omega) (by omega) (by omega)).symm⟩
open Classical in
noncomputable def pnV (s : ByteArray) : Value := if h : ∃ n, isT s n then .tuple #[.agg #[.int .i64 (Classical.choose h).id, .string (Classical.choose h).topic, .int .i64 (Classical.choose h).given, .int .i64 (Classical.choose h).days], .bool true] else .tuple #[.agg #[.int .i64 0, .string ⟨#[]⟩, .int .i64 0, .int .i64 0], .bool false]
theorem pnV_yes {s : ByteArray} {n : Ntc} (h : isT s n) : pnV s = .tuple #[.agg #[.int .i64 n.id, .string n.topic, .int .i64 n.given, .int .i64 n.days], .bool true] := by
  have hx : ∃ n, isT s n := ⟨n, h⟩
  obtain ⟨e1, e2, e3, e4⟩ := isT_uniq (Classical.choose_spec hx) h
  rw [pnV, dif_pos hx, e1, e2, e3, e4]
theorem pnV_no {s : ByteArray} (h : ¬ ∃ n, isT s n) : pnV s = .tuple #[.agg #[.int .i64 0, .string ⟨#[]⟩, .int .i64 0, .int .i64 0], .bool false] := by rw [pnV, dif_neg h]
theorem pnV_form (s : ByteArray) : ∃ (a : Int) (t : ByteArray) (g d : Int) (b : Bool), pnV s = .tuple #[.agg #[.int .i64 a, .string t, .int .i64 g, .int .i64 d], .bool b] := by
  unfold pnV; split <;> exact ⟨_, _, _, _, _, rfl⟩
theorem iParseV_is (s : ByteArray) (hs : s.size ≤ maxLen) (v : Int) (b : Bool) (h : rdOut s = .tuple #[.int .i64 v, .bool b]) (w : World) (HT : Tab w) (HE : Esy w) : Calls Tryz.prog 64 #[.string s] w fun e w' => e = .returned (.tuple #[.int .i64 v, .bool b]) ∧ Below w.heap.size w w' := by
  rw [← h]; exact iParseInt_is s hs w HT HE
theorem l1ReadV_is (s : ByteArray) (hs : s.size ≤ maxLen) (v : Int) (b : Bool) (h : rdOut s = .tuple #[.int .i64 v, .bool b]) (w : World) : Calls Tryz.prog 66 #[.string s] w fun e w' => e = .returned (.tuple #[.int .i64 v, .bool b]) ∧ Below w.heap.size w w' := by
  rw [← h]; exact l1Read_is s hs w
end Go.Proofs.YtbnncgahepcfnaaGreatDoor
