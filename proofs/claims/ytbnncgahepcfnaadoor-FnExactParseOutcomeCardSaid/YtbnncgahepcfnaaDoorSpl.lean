/- A text split at a byte: plain law, and the reference's own function in full. -/
import Derived.Test.YtbnncgahepcfnaaDoorPrs
import Derived.Test.YtbnncgahepcfnaaDoorApp
import Derived.Test.YtbnncgahepcfnaaDoorInt2
import Derived.Test.YtbnncgahepcfnaaDoorCur
import Derived.Deep.Cut
namespace Go.G9
open Go.RowKit
def bz (l : List UInt8) : ByteArray := ⟨l.toArray⟩
theorem bz_data (s : ByteArray) : bz s.data.toList = s := by obtain ⟨⟨l⟩⟩ := s; rfl
theorem bz_list (l : List UInt8) : (bz l).data.toList = l := by simp [bz]
def spl (c : UInt8) : List UInt8 → List (List UInt8)
  | [] => [[]]
  | x :: l => if x == c then [] :: spl c l else match spl c l with | [] => [[x]] | w :: ws => (x :: w) :: ws
theorem spl_none {c : UInt8} : ∀ {u : List UInt8}, (∀ x ∈ u, (x == c) = false) → spl c u = [u]
  | [], _ => rfl
  | x :: u, h => by
    have hx := h x (by simp)
    have ih := spl_none (u := u) (fun y hy => h y (by simp [hy]))
    simp only [spl, hx, ih]; rfl
theorem spl_sep {c : UInt8} : ∀ {u v : List UInt8}, (∀ x ∈ u, (x == c) = false) → spl c (u ++ c :: v) = u :: spl c v
  | [], v, _ => by simp [spl]
  | x :: u, v, h => by
    have hx := h x (by simp)
    have ih := spl_sep (u := u) (v := v) (fun y hy => h y (by simp [hy]))
    simp only [List.cons_append, spl, hx, ih]; rfl
theorem spl_ne (c : UInt8) (l : List UInt8) : spl c l ≠ [] := by
  cases l with
  | nil => simp [spl]
  | cons x l => unfold spl; split; · simp
                split <;> simp
theorem spl_len (c : UInt8) : ∀ l : List UInt8, (spl c l).length ≤ l.length + 1
  | [] => by simp [spl]
  | x :: l => by
    have ih := spl_len c l
    unfold spl
    split
    · simp; omega
    · split
      · simp
      · rename_i h; rw [h] at ih; simp at ih ⊢; omega
theorem extract_list (s : ByteArray) (a b : Nat) : (s.extract a b).data.toList = (s.data.toList.drop a).take (b - a) := by
  rw [ByteArray.data_extract, Array.toList_extract]
theorem at_list (s : ByteArray) {k : Nat} (hk : k < s.size) : s.data.toList[k]? = some s[k] := by
  have h : k < s.data.toList.length := by simpa using hk
  rw [List.getElem?_eq_getElem h]; rfl
end Go.G9
namespace Go.Proofs.YtbnncgahepcfnaaDoor
open Go.RowKit Go.G9
theorem info_strS : (Tryd.prog.info? 9).map (fun i => (i.zero, i.size, i.bytes)) = some (some (.string ⟨#[]⟩), 1, 16) := by kernel_rfl
theorem bC_one (y : ByteArray) (u : Value) (h : u ∈ bC y) : u.oneCell' = true := by simp [bC] at h; subst h; rfl
def spB (c : UInt8) (s : ByteArray) : List ByteArray := (spl c s.data.toList).map bz
set_option maxHeartbeats 4000000 in
set_option maxRecDepth 100000 in
theorem l1SplitF_is (s : ByteArray) (c : UInt8) (hs : s.size ≤ 1048576) (w : World) : Calls Tryd.prog 66 #[.string s, .int .u8 (c.toNat : Int)] w fun e w' => ∃ A n, e = .returned (.slice A (spB c s).length n) ∧ OwnV w.heap.size 9 1 bC w' (.slice A (spB c s).length n) (spB c s) ∧ Below w.heap.size w w' := by
  obtain ⟨i0, hi, hz0, hz1, hz2⟩ := info_parts info_strS
  have hR0 := OwnV.built (B := w.heap.size) (f := bC) w ([] : List ByteArray) 9 (Nat.le_refl _) (by simp) bC_len
  simp only [List.flatMap_nil] at hR0
  have HR0 := Lib.hid hR0; clear hR0
  have hcl : c.toNat < 256 := c.toNat_lt
  have hcl2 : (c.toNat : Int) < 256 := by omega
  go_enter Tryd.func66, Tryd.ntmps66
  go_wp2
  go_loopw [5, 6, 7] (fun v5 v6 v7 wr => ∃ (xs : List ByteArray) (a k : Nat), k ≤ s.size ∧ a ≤ k ∧ v6 = .int .i64 a ∧ v7 = .int .i64 k ∧ xs.length ≤ k ∧ spB c s = xs ++ (spl c (s.data.toList.drop a)).map bz ∧ (∀ x ∈ (s.data.toList.drop a).take (k - a), (x == c) = false) ∧
      OwnV w.heap.size 9 1 bC wr v5 xs ∧ Below w.heap.size w wr) (fun _ _ v7 _ => 1048577 - (intOf v7).toNat)
  case atStart =>
    exact ⟨[], 0, 0, Nat.zero_le _, Nat.le_refl _, rfl, rfl, Nat.le_refl _, by simp [spB], by simp, HR0.out, bl1 _ _⟩
  case round =>
    obtain ⟨xs, a, k, hk, ha, rfl, rfl, hxl, hx0, hx1, hO, hb⟩ := hrel
    obtain ⟨A5, c5, rfl, hc5, _, _⟩ := hO.form bC_len
    have z0 := hb.size
    have lO := Lib.hid hO.lt
    have H0 := Lib.hid hx0; have H1 := Lib.hid hx1; have HO := Lib.hid hO; clear hx0 hx1 hO
    by_cases hlt : k < s.size
    · have hbk : s[k].toNat < 256 := s[k].toNat_lt
      have hget := at_list s hlt
      have hka : (s.data.toList.drop a)[k - a]? = some s[k] := by rw [List.getElem?_drop, show a + (k - a) = k by omega]; exact hget
      by_cases hc : s[k] = c
      · have hc2 : ((s[k].toNat : Int) == (c.toNat : Int)) = true := by rw [hc]; exact beq_iff_eq.2 rfl
        have hnew : spB c s = (xs ++ [s.extract a k]) ++ (spl c (s.data.toList.drop (k + 1))).map bz := by
          have e : s.data.toList.drop a = (s.data.toList.drop a).take (k - a) ++ c :: s.data.toList.drop (k + 1) := by
            have h1 : k - a < (s.data.toList.drop a).length := (List.getElem?_eq_some_iff.1 hka).1
            conv => lhs; rw [← List.take_append_drop (k - a) (s.data.toList.drop a)]
            rw [List.drop_eq_getElem_cons h1]
            have h2 : (s.data.toList.drop a)[k - a] = c := by
              have := (List.getElem?_eq_some_iff.1 hka).2; rw [this, hc]
            rw [h2, List.drop_drop, show a + (k - a + 1) = k + 1 by omega]
          rw [H0.out, e, spl_sep H1.out]
          simp only [List.map_cons, List.append_assoc, List.singleton_append]
          congr 2
          rw [← bz_data (s.extract a k), extract_list]
        have HN := Lib.hid hnew; clear hnew hc hget hka
        have hone : Rds 1 bC (wr.alloc (.cells #[.string (s.extract a k)] 9)) (some ⟨wr.heap.size, 0, none⟩) [s.extract a k] := Rds.one (sz := 1) (f := bC) _ _
        have HONE := Lib.hid hone; clear hone
        have HO1 := Lib.hid (HO.out.alloc (.cells #[.string (s.extract a k)] 9))
        go_wp2_with (at_builtin; refine wpList_app1 rfl _ _ 82 rfl w.heap.size 9 i0 _ 1 16 Tryd.underlying82 hi hz0 hz1 hz2 rfl (by decide) bC bC_len bC_one (.slice A5 xs.length c5) xs rfl HO1.out ⟨wr.heap.size, 0, none⟩ 1 (s.extract a k) rfl HONE.out (by unfold maxLen; omega) (by omega) (by simp; omega) ?_; intro v4 w4 hO4 hg4 ha4)
        have z4 := hg4.size
        have hB4 : Below w.heap.size w w4 := (hb.alloc (by omega) _).grown hg4 (by simp; omega) (fun q hq => (lO.out q hq).1)
        go_roundw
        case rel => exact ⟨xs ++ [s.extract a k], k + 1, k + 1, by omega, Nat.le_refl _, by go_num, by go_num, by simp; omega, HN.out, by simp, hO4, hB4⟩
        case measure => simp [intOf]; omega
      · have hc2 : ((s[k].toNat : Int) == (c.toNat : Int)) = false := by
          rw [beq_eq_false_iff_ne]
          intro e
          exact hc (UInt8.toNat_inj.1 (by omega))
        have hnew : ∀ x ∈ (s.data.toList.drop a).take (k + 1 - a), (x == c) = false := fun x hx => by
          have h1 : k - a < (s.data.toList.drop a).length := (List.getElem?_eq_some_iff.1 hka).1
          rw [show k + 1 - a = k - a + 1 by omega, List.take_succ_eq_append_getElem h1] at hx
          simp only [List.mem_append, List.mem_singleton] at hx
          rcases hx with hx | hx
          · exact H1.out x hx
          · rw [(List.getElem?_eq_some_iff.1 hka).2] at hx
            subst hx; exact beq_eq_false_iff_ne.2 hc
        have HN := Lib.hid hnew; clear hnew hc hget hka
        go_wp2
        go_roundw
        case rel => exact ⟨xs, a, k + 1, by omega, by omega, rfl, by go_num, by omega, H0.out, HN.out, HO.out, hb⟩
        case measure => simp [intOf]; omega
    · obtain rfl : k = s.size := by omega
      have hfin : xs ++ [s.extract a s.size] = spB c s := by
        have hsz : s.data.toList.length = s.size := by simp
        have h1 := H1.out
        rw [List.take_of_length_le (by rw [List.length_drop, hsz]; omega)] at h1
        rw [H0.out, spl_none h1]
        simp only [List.map_cons, List.map_nil]
        congr 1
        rw [← bz_data (s.extract a s.size), extract_list, List.take_of_length_le (by rw [List.length_drop, hsz]; omega)]
      have HF := Lib.hid hfin; clear hfin
      have hone : Rds 1 bC (wr.alloc (.cells #[.string (s.extract a s.size)] 9)) (some ⟨wr.heap.size, 0, none⟩) [s.extract a s.size] := Rds.one (sz := 1) (f := bC) _ _
      have HONE := Lib.hid hone; clear hone
      have HO1 := Lib.hid (HO.out.alloc (.cells #[.string (s.extract a s.size)] 9))
      go_wp2_with (at_builtin; refine wpList_app1 rfl _ _ 82 rfl w.heap.size 9 i0 _ 1 16 Tryd.underlying82 hi hz0 hz1 hz2 rfl (by decide) bC bC_len bC_one (.slice A5 xs.length c5) xs rfl HO1.out ⟨wr.heap.size, 0, none⟩ 1 (s.extract a s.size) rfl HONE.out (by unfold maxLen; omega) (by omega) (by simp; omega) ?_; intro v4 w4 hO4 hg4 ha4)
      have z4 := hg4.size
      have hB4 : Below w.heap.size w w4 := (hb.alloc (by omega) _).grown hg4 (by simp; omega) (fun q hq => (lO.out q hq).1)
      rw [HF.out] at hO4
      obtain ⟨A6, c6, rfl, _, _, _⟩ := hO4.form bC_len
      go_ret
      exact ⟨A6, c6, rfl, hO4, hB4⟩
end Go.Proofs.YtbnncgahepcfnaaDoor
