/- A text split at a byte: plain law, and the reference's own function in full. -/
import Derived.Test.YtbnncgahepcfnaaGreatDoorRl5
import Derived.Test.YtbnncgahepcfnaaGreatDoorRl7
import Derived.Test.YtbnncgahepcfnaaGreatDoorRl6
import Derived.Test.YtbnncgahepcfnaaGreatDoorRl9
import Derived.Deep.Cut
import Derived.Test.YtbnncgahepcfnaaGreatDoorRl4
import Derived.Lib.Split
import Derived.Lib.IndexBytes
namespace Go.G9
open Go.RowKit
def bz (l : List UInt8) : ByteArray := ⟨l.toArray⟩
theorem bz_data (s : ByteArray) : bz s.data.toList = s := by obtain ⟨⟨l⟩⟩ := s; rfl
theorem bz_list (l : List UInt8) : (bz l).data.toList = l := by simp [bz]
def spl (c : UInt8) : List UInt8 → List (List UInt8)
  | [] => [[]]
  | x :: l => if x == c then [] :: spl c l else match spl c l with | [] => [[x]] | w :: ws => (x :: w) :: ws
theorem spl_none {c : UInt8} : ∀ {u : List UInt8}, (∀ x ∈ u, (x == c) = false) → spl c u = [u]
  | [], _ => rfl
  | x :: u, h => by
    have hx := h x (by simp)
    have ih := spl_none (u := u) (fun y hy => h y (by simp [hy]))
    simp only [spl, hx, ih]; rfl
theorem spl_sep {c : UInt8} : ∀ {u v : List UInt8}, (∀ x ∈ u, (x == c) = false) → spl c (u ++ c :: v) = u :: spl c v
  | [], v, _ => by simp [spl]
  | x :: u, v, h => by
    have hx := h x (by simp)
    have ih := spl_sep (u := u) (v := v) (fun y hy => h y (by simp [hy]))
    simp only [List.cons_append, spl, hx, ih]; rfl
theorem spl_ne (c : UInt8) (l : List UInt8) : spl c l ≠ [] := by
  cases l with
  | nil => simp [spl]
  | cons x l => unfold spl; split; · simp
                split <;> simp
theorem spl_len (c : UInt8) : ∀ l : List UInt8, (spl c l).length ≤ l.length + 1
  | [] => by simp [spl]
  | x :: l => by
    have ih := spl_len c l
    unfold spl
    split
    · simp; omega
    · split
      · simp
      · rename_i h; rw [h] at ih; simp at ih ⊢; omega
theorem extract_list (s : ByteArray) (a b : Nat) : (s.extract a b).data.toList = (s.data.toList.drop a).take (b - a) := by
  rw [ByteArray.data_extract, Array.toList_extract]
theorem at_list (s : ByteArray) {k : Nat} (hk : k < s.size) : s.data.toList[k]? = some s[k] := by
  have h : k < s.data.toList.length := by simpa using hk
  rw [List.getElem?_eq_getElem h]; rfl
end Go.G9
namespace Go.Proofs.YtbnncgahepcfnaaGreatDoor
open Go.RowKit Go.G9
theorem info_strS : (Tryz.prog.info? 9).map (fun i => (i.zero, i.size, i.bytes)) = some (some (.string ⟨#[]⟩), 1, 16) := by kernel_rfl
theorem bC_one (y : ByteArray) (u : Value) (h : u ∈ bC y) : u.oneCell' = true := by simp [bC] at h; subst h; rfl
def spB (c : UInt8) (s : ByteArray) : List ByteArray := (spl c s.data.toList).map bz
set_option maxHeartbeats 4000000 in
set_option maxRecDepth 100000 in
theorem l1SplitF_is (s : ByteArray) (c : UInt8) (hs : s.size ≤ 1048576) (w : World) : Calls Tryz.prog 57 #[.string s, .int .u8 (c.toNat : Int)] w fun e w' => ∃ A n, e = .returned (.slice A (spB c s).length n) ∧ OwnV w.heap.size 9 1 bC w' (.slice A (spB c s).length n) (spB c s) ∧ Below w.heap.size w w' := by
  obtain ⟨i0, hi, hz0, hz1, hz2⟩ := info_parts info_strS
  have hR0 := OwnV.built (B := w.heap.size) (f := bC) w ([] : List ByteArray) 9 (Nat.le_refl _) (by simp) bC_len
  simp only [List.flatMap_nil] at hR0
  have HR0 := Lib.hid hR0; clear hR0
  have hcl : c.toNat < 256 := c.toNat_lt
  have hcl2 : (c.toNat : Int) < 256 := by omega
  go_enter Tryz.func57, Tryz.ntmps57
  go_wp2
  go_loopw [5, 6, 7] (fun v5 v6 v7 wr => ∃ (xs : List ByteArray) (a k : Nat), k ≤ s.size ∧ a ≤ k ∧ v6 = .int .i64 a ∧ v7 = .int .i64 k ∧ xs.length ≤ k ∧ spB c s = xs ++ (spl c (s.data.toList.drop a)).map bz ∧ (∀ x ∈ (s.data.toList.drop a).take (k - a), (x == c) = false) ∧
      OwnV w.heap.size 9 1 bC wr v5 xs ∧ Below w.heap.size w wr) (fun _ _ v7 _ => 1048577 - (intOf v7).toNat)
  case atStart =>
    exact ⟨[], 0, 0, Nat.zero_le _, Nat.le_refl _, rfl, rfl, Nat.le_refl _, by simp [spB], by simp, HR0.out, bl1 _ _⟩
  case round =>
    obtain ⟨xs, a, k, hk, ha, rfl, rfl, hxl, hx0, hx1, hO, hb⟩ := hrel
    obtain ⟨A5, c5, rfl, hc5, _, _⟩ := hO.form bC_len
    have z0 := hb.size
    have lO := Lib.hid hO.lt
    have H0 := Lib.hid hx0; have H1 := Lib.hid hx1; have HO := Lib.hid hO; clear hx0 hx1 hO
    by_cases hlt : k < s.size
    · have hbk : s[k].toNat < 256 := s[k].toNat_lt
      have hget := at_list s hlt
      have hka : (s.data.toList.drop a)[k - a]? = some s[k] := by rw [List.getElem?_drop, show a + (k - a) = k by omega]; exact hget
      by_cases hc : s[k] = c
      · have hc2 : ((s[k].toNat : Int) == (c.toNat : Int)) = true := by rw [hc]; exact beq_iff_eq.2 rfl
        have hnew : spB c s = (xs ++ [s.extract a k]) ++ (spl c (s.data.toList.drop (k + 1))).map bz := by
          have e : s.data.toList.drop a = (s.data.toList.drop a).take (k - a) ++ c :: s.data.toList.drop (k + 1) := by
            have h1 : k - a < (s.data.toList.drop a).length := (List.getElem?_eq_some_iff.1 hka).1
            conv => lhs; rw [← List.take_append_drop (k - a) (s.data.toList.drop a)]
            rw [List.drop_eq_getElem_cons h1]
            have h2 : (s.data.toList.drop a)[k - a] = c := by
              have := (List.getElem?_eq_some_iff.1 hka).2; rw [this, hc]
            rw [h2, List.drop_drop, show a + (k - a + 1) = k + 1 by omega]
          rw [H0.out, e, spl_sep H1.out]
          simp only [List.map_cons, List.append_assoc, List.singleton_append]
          congr 2
          rw [← bz_data (s.extract a k), extract_list]
        have HN := Lib.hid hnew; clear hnew hc hget hka
        have hone : Rds 1 bC (wr.alloc (.cells #[.string (s.extract a k)] 9)) (some ⟨wr.heap.size, 0, none⟩) [s.extract a k] := Rds.one (sz := 1) (f := bC) _ _
        have HONE := Lib.hid hone; clear hone
        have HO1 := Lib.hid (HO.out.alloc (.cells #[.string (s.extract a k)] 9))
        go_wp2_with (at_builtin; refine wpList_app1 rfl _ _ 51 rfl w.heap.size 9 i0 _ 1 16 Tryz.underlying51 hi hz0 hz1 hz2 rfl (by decide) bC bC_len bC_one (.slice A5 xs.length c5) xs rfl HO1.out ⟨wr.heap.size, 0, none⟩ 1 (s.extract a k) rfl HONE.out (by unfold maxLen; omega) (by omega) (by simp; omega) ?_; intro v4 w4 hO4 hg4 ha4)
        have z4 := hg4.size
        have hB4 : Below w.heap.size w w4 := (hb.alloc (by omega) _).grown hg4 (by simp; omega) (fun q hq => (lO.out q hq).1)
        go_roundw
        case rel => exact ⟨xs ++ [s.extract a k], k + 1, k + 1, by omega, Nat.le_refl _, by go_num, by go_num, by simp; omega, HN.out, by simp, hO4, hB4⟩
        case measure => simp [intOf]; omega
      · have hc2 : ((s[k].toNat : Int) == (c.toNat : Int)) = false := by
          rw [beq_eq_false_iff_ne]
          intro e
          exact hc (UInt8.toNat_inj.1 (by omega))
        have hnew : ∀ x ∈ (s.data.toList.drop a).take (k + 1 - a), (x == c) = false := fun x hx => by
          have h1 : k - a < (s.data.toList.drop a).length := (List.getElem?_eq_some_iff.1 hka).1
          rw [show k + 1 - a = k - a + 1 by omega, List.take_succ_eq_append_getElem h1] at hx
          simp only [List.mem_append, List.mem_singleton] at hx
          rcases hx with hx | hx
          · exact H1.out x hx
          · rw [(List.getElem?_eq_some_iff.1 hka).2] at hx
            subst hx; exact beq_eq_false_iff_ne.2 hc
        have HN := Lib.hid hnew; clear hnew hc hget hka
        go_wp2
        go_roundw
        case rel => exact ⟨xs, a, k + 1, by omega, by omega, rfl, by go_num, by omega, H0.out, HN.out, HO.out, hb⟩
        case measure => simp [intOf]; omega
    · obtain rfl : k = s.size := by omega
      have hfin : xs ++ [s.extract a s.size] = spB c s := by
        have hsz : s.data.toList.length = s.size := by simp
        have h1 := H1.out
        rw [List.take_of_length_le (by rw [List.length_drop, hsz]; omega)] at h1
        rw [H0.out, spl_none h1]
        simp only [List.map_cons, List.map_nil]
        congr 1
        rw [← bz_data (s.extract a s.size), extract_list, List.take_of_length_le (by rw [List.length_drop, hsz]; omega)]
      have HF := Lib.hid hfin; clear hfin
      have hone : Rds 1 bC (wr.alloc (.cells #[.string (s.extract a s.size)] 9)) (some ⟨wr.heap.size, 0, none⟩) [s.extract a s.size] := Rds.one (sz := 1) (f := bC) _ _
      have HONE := Lib.hid hone; clear hone
      have HO1 := Lib.hid (HO.out.alloc (.cells #[.string (s.extract a s.size)] 9))
      go_wp2_with (at_builtin; refine wpList_app1 rfl _ _ 51 rfl w.heap.size 9 i0 _ 1 16 Tryz.underlying51 hi hz0 hz1 hz2 rfl (by decide) bC bC_len bC_one (.slice A5 xs.length c5) xs rfl HO1.out ⟨wr.heap.size, 0, none⟩ 1 (s.extract a s.size) rfl HONE.out (by unfold maxLen; omega) (by omega) (by simp; omega) ?_; intro v4 w4 hO4 hg4 ha4)
      have z4 := hg4.size
      have hB4 : Below w.heap.size w w4 := (hb.alloc (by omega) _).grown hg4 (by simp; omega) (fun q hq => (lO.out q hq).1)
      rw [HF.out] at hO4
      obtain ⟨A6, c6, rfl, _, _, _⟩ := hO4.form bC_len
      go_ret
      exact ⟨A6, c6, rfl, hO4, hB4⟩
end Go.Proofs.YtbnncgahepcfnaaGreatDoor
/- A text split at a byte by Go's library: it is the plain split. -/
namespace Go.G9
open Go.RowKit
theorem cut_at (c : UInt8) : ∀ l : List UInt8, (∀ x ∈ l, (x == c) = false) ∨ ∃ u v, l = u ++ c :: v ∧ ∀ x ∈ u, (x == c) = false
  | [] => .inl (by simp)
  | y :: l => by
    cases hy : y == c
    · rcases cut_at c l with h | ⟨u, v, e, h⟩
      · left; intro x hx
        rcases List.mem_cons.1 hx with rfl | hx
        · exact hy
        · exact h x hx
      · right
        exact ⟨y :: u, v, by rw [e]; rfl, fun x hx => by
          rcases List.mem_cons.1 hx with rfl | hx
          · exact hy
          · exact h x hx⟩
    · right
      have : y = c := by simpa using hy
      exact ⟨[], l, by rw [this]; rfl, by simp⟩
theorem ix_none {c : UInt8} : ∀ {l : List UInt8}, (∀ x ∈ l, (x == c) = false) → Lib.indexByte l c = -1
  | [], _ => rfl
  | y :: l, h => by
    have ih := ix_none (l := l) (fun x hx => h x (by simp [hx]))
    simp [Lib.indexByte, h y (by simp), ih]
theorem ix_app {c : UInt8} : ∀ {u v : List UInt8}, (∀ x ∈ u, (x == c) = false) → Lib.indexByte (u ++ c :: v) c = (u.length : Int)
  | [], v, _ => by simp [Lib.indexByte]
  | y :: u, v, h => by
    have ih := ix_app (u := u) (v := v) (fun x hx => h x (by simp [hx]))
    have hne : ((u.length : Int) == -1) = false := by rw [beq_eq_false_iff_ne]; omega
    simp only [List.cons_append, Lib.indexByte, h y (by simp), ih, hne, List.length_cons]
    simp
theorem split_spl (c : UInt8) (l : List UInt8) : Lib.splitK [c] 0 (Lib.count l [c]) l = spl c l := by
  rcases cut_at c l with h | ⟨u, v, e, h⟩
  · have hi : Lib.index l [c] = -1 := by rw [Lib.index_one, ix_none h]
    rw [Lib.count_miss hi, spl_none h]; rfl
  · have hi : Lib.index l [c] = (u.length : Nat) := by rw [Lib.index_one, e, ix_app h]
    have hm : ¬ (Lib.index l [c] == -1) = true := fun q => by have := beq_iff_eq.1 q; omega
    have hd : l.drop (u.length + [c].length) = v := by
      rw [e]; simp [List.drop_append]
    have ht : l.take (u.length + 0) = u := by rw [e]; simp
    rw [Lib.count_hit (by simp) hi, hd, Nat.add_comm 1, Lib.splitK, if_neg hm]
    have hn : (Lib.index l [c]).toNat = u.length := by omega
    rw [hn, hd, ht, split_spl c v, e, spl_sep h]
termination_by l.length
decreasing_by rw [e]; simp; omega
theorem splitB_spl (c : UInt8) (s : ByteArray) : Lib.splitB ⟨#[c]⟩ 0 (Lib.countB s ⟨#[c]⟩) s = (spl c s.data.toList).map bz := by
  have h := Lib.splitB_data ⟨#[c]⟩ 0 (Lib.countB s ⟨#[c]⟩) s
  have h2 : Lib.splitK (⟨#[c]⟩ : ByteArray).data.toList 0 (Lib.countB s ⟨#[c]⟩) s.data.toList = spl c s.data.toList := split_spl c s.data.toList
  rw [h2] at h
  rw [← h, List.map_map]
  conv => lhs; rw [← List.map_id (Lib.splitB ⟨#[c]⟩ 0 (Lib.countB s ⟨#[c]⟩) s)]
  exact List.map_congr_left fun x _ => (bz_data x).symm
end Go.G9
namespace Go.Proofs.YtbnncgahepcfnaaGreatDoor
open Go.RowKit Go.G9
def Mxl (w : World) : Prop := 1 < w.heap.size ∧ ∃ m : Int, w.cell? ⟨1, 0, none⟩ = some (.int .i64 m)
theorem Mxl.below {w w' : World} (h : Mxl w) (hb : Below w.heap.size w w') : Mxl w' := by
  obtain ⟨h1, m, h2⟩ := h
  exact ⟨Nat.lt_of_lt_of_le h1 hb.size, m, (hb.cell (p := ⟨1, 0, none⟩) h1).trans h2⟩
theorem iSplit_is (s : ByteArray) (c : UInt8) (hs : s.size ≤ 1048576) (w : World) (hM : Mxl w) : Calls Tryz.prog 46 #[.string s, .string ⟨#[c]⟩] w fun e w' => ∃ A n, e = .returned (.slice A (spB c s).length n) ∧ OwnV w.heap.size 9 1 bC w' (.slice A (spB c s).length n) (spB c s) ∧ Below w.heap.size w w' := by
  obtain ⟨h1, m, h2⟩ := hM
  refine (Tryz.strings_Split s ⟨#[c]⟩ m w (by omega) h2 (Nat.le_refl _)).mono ?_
  rintro e w' ⟨rfl, rfl⟩
  have hsp := splitB_spl c s
  have hlen : Lib.countB s ⟨#[c]⟩ + 1 = (spB c s).length := by
    have := Lib.splitB_all ⟨#[c]⟩ (Nat.le_refl _) 0 (Lib.countB s ⟨#[c]⟩) s rfl
    rw [hsp] at this; exact this.symm
  have hcl : (spB c s).length ≤ maxLen := by
    have := spl_len c s.data.toList
    have h3 : s.data.toList.length = s.size := by simp
    unfold spB maxLen; rw [List.length_map]; omega
  have hO := OwnV.built (B := w.heap.size) (f := bC) w (spB c s) 9 (Nat.le_refl _) hcl bC_len
  have hcells : (spB c s).flatMap bC = (spB c s).map Value.string := by
    generalize spB c s = L
    induction L with
    | nil => rfl
    | cons x L ih => simp [bC, ih]
  rw [hcells] at hO
  rw [hlen]
  refine ⟨some ⟨w.heap.size, 0, none⟩, (spB c s).length, rfl, ?_, bl1 _ _⟩
  rw [hsp]
  exact hO
end Go.Proofs.YtbnncgahepcfnaaGreatDoor
/- The words of a notice's text. -/
namespace Go.Proofs.YtbnncgahepcfnaaGreatDoor
open Go.RowKit Go.G9
theorem dig_ns {c : UInt8} (h : digB c = true) : (c == 32) = false := by
  simp only [digB, Bool.and_eq_true, decide_eq_true_eq] at h
  rw [beq_eq_false_iff_ne]; intro e; subst e; simp at h
theorem numS_ns (v : Int) (h : 0 ≤ v) : ∀ x ∈ (numS v).data.toList, (x == 32) = false := by
  show ∀ x ∈ Lib.itoa v, _
  unfold Lib.itoa
  rw [if_neg (by omega)]
  exact fun x hx => dig_ns ((dec_spec v.toNat).2.1 x hx)
theorem low_ns {s : ByteArray} (h : wordB s = true) : ∀ x ∈ s.data.toList, (x == 32) = false := by
  simp only [wordB, Bool.and_eq_true] at h
  intro x hx
  have h1 := h.1
  simp only [lowB, List.all_eq_true] at h1
  have := h1 x hx
  rw [beq_eq_false_iff_ne]; intro e; subst e
  simp at this
theorem app_list (a b : ByteArray) : (a ++ b).data.toList = a.data.toList ++ b.data.toList := by
  simp
def lastW (n : Ntc) : ByteArray := if n.days = 1 then (⟨#[100, 97, 121]⟩ : ByteArray) else (⟨#[100, 97, 121, 115]⟩ : ByteArray)
theorem txt_list (n : Ntc) : n.txt.data.toList = [110, 111, 116, 105, 99, 101] ++ 32 :: (((numS n.id).data.toList ++ [58]) ++ 32 :: (n.topic.data.toList ++ 32 :: ([103, 105, 118, 101, 110] ++ 32 :: ([111, 110] ++ 32 :: ([100, 97, 121] ++ 32 :: (((numS n.given).data.toList ++ [44]) ++ 32 :: ((numS n.days).data.toList ++ 32 :: (lastW n).data.toList))))))) := by
  unfold Ntc.txt Ntc.head lastW
  split <;> simp
theorem ntc_words (n : Ntc) (h : noticeB n = true) : spB 32 n.txt = [(⟨#[110, 111, 116, 105, 99, 101]⟩ : ByteArray), numS n.id ++ (⟨#[58]⟩ : ByteArray), n.topic, (⟨#[103, 105, 118, 101, 110]⟩ : ByteArray), (⟨#[111, 110]⟩ : ByteArray), (⟨#[100, 97, 121]⟩ : ByteArray), numS n.given ++ (⟨#[44]⟩ : ByteArray), numS n.days, lastW n] := by
  obtain ⟨h1, _, _, h4, _, h6, _⟩ := noticeB_bd h
  have hw : wordB n.topic = true := by simp only [noticeB, Bool.and_eq_true] at h; exact h.2.1
  have a1 := numS_ns n.id (by omega)
  have a2 := low_ns hw
  have a3 := numS_ns n.given h4
  have a4 := numS_ns n.days h6
  have a5 : ∀ x ∈ (lastW n).data.toList, (x == 32) = false := by
    unfold lastW; split <;> decide
  have b1 : ∀ x ∈ (numS n.id).data.toList ++ [58], (x == 32) = false := fun x hx => by
    simp only [List.mem_append, List.mem_singleton] at hx
    rcases hx with hx | rfl
    · exact a1 x hx
    · rfl
  have b3 : ∀ x ∈ (numS n.given).data.toList ++ [44], (x == 32) = false := fun x hx => by
    simp only [List.mem_append, List.mem_singleton] at hx
    rcases hx with hx | rfl
    · exact a3 x hx
    · rfl
  unfold spB
  rw [txt_list, spl_sep (by decide), spl_sep b1, spl_sep a2, spl_sep (by decide), spl_sep (by decide), spl_sep (by decide), spl_sep b3, spl_sep a4, spl_none a5]
  have e : ∀ s : ByteArray, bz s.data.toList = s := bz_data
  simp only [List.map_cons, List.map_nil, e]
  have e2 : ∀ (s : ByteArray) (c : UInt8), bz (s.data.toList ++ [c]) = s ++ ⟨#[c]⟩ := fun s c => by
    rw [← bz_data (s ++ ⟨#[c]⟩), app_list]
  rw [e2, e2]
  rfl
end Go.Proofs.YtbnncgahepcfnaaGreatDoor
/- A notice read from its text: plain law. -/
namespace Go.Proofs.YtbnncgahepcfnaaGreatDoor
open Go.RowKit Go.G9
theorem spl_mem (c : UInt8) : ∀ (l : List UInt8), ∀ u ∈ spl c l, u.length ≤ l.length
  | [], u, h => by simp [spl] at h; subst h; simp
  | x :: l, u, h => by
    have ih := spl_mem c l
    unfold spl at h
    split at h
    · rcases List.mem_cons.1 h with rfl | h
      · simp
      · have := ih u h; simp; omega
    · split at h
      · simp at h; subst h; simp
      · rename_i w ws hw
        rcases List.mem_cons.1 h with rfl | h
        · have := ih w (by rw [hw]; simp); simp; omega
        · have := ih u (by rw [hw]; simp [h]); simp; omega
def trm (s : ByteArray) (c : UInt8) : ByteArray := ⟨(Lib.trimSuffix s.data.toList [c]).toArray⟩
theorem trm_app (s : ByteArray) (c : UInt8) : trm (s ++ ⟨#[c]⟩) c = s := by
  apply ba_ext
  show (Lib.trimSuffix (s ++ ⟨#[c]⟩).data.toList [c]).toArray.toList = s.data.toList
  rw [app_list]
  have hs : Lib.hasSuffix (s.data.toList ++ [c]) [c] = true := by simp [Lib.hasSuffix]
  simp [Lib.trimSuffix, hs]
theorem trm_size (s : ByteArray) (c : UInt8) : (trm s c).size ≤ s.size := by
  show (Lib.trimSuffix s.data.toList [c]).toArray.size ≤ s.size
  have h : s.data.toList.length = s.size := by simp
  rw [List.size_toArray]
  unfold Lib.trimSuffix
  split
  · rw [List.length_take]; omega
  · omega
theorem spB_size {c : UInt8} {s x : ByteArray} {k : Nat} (h : (spB c s)[k]? = some x) : x.size ≤ s.size := by
  have hm := List.mem_of_getElem? h
  unfold spB at hm
  obtain ⟨u, hu, rfl⟩ := List.mem_map.1 hm
  have h1 := spl_mem c _ u hu
  have h2 : s.data.toList.length = s.size := by simp
  show u.toArray.size ≤ s.size
  rw [List.size_toArray]; omega
theorem rdOut_numS (v : Int) (h0 : -999999 ≤ v) (h1 : v ≤ 999999) : rdOut (numS v) = .tuple #[.int .i64 v, .bool true] := by
  obtain ⟨a, b⟩ := rd_numS v h0 h1
  rw [rdOut, a, b]; rfl
theorem numS_inj {a b : Int} (h : numS a = numS b) (a0 : -999999 ≤ a) (a1 : a ≤ 999999) (b0 : -999999 ≤ b) (b1 : b ≤ 999999) : a = b := by
  have h1 := (rd_numS a a0 a1).2
  rw [h, (rd_numS b b0 b1).2] at h1; exact h1.symm
def isT (s : ByteArray) (n : Ntc) : Prop := noticeB n = true ∧ n.txt = s
theorem isT_uniq {s : ByteArray} {n m : Ntc} (h : isT s n) (k : isT s m) : n.id = m.id ∧ n.topic = m.topic ∧ n.given = m.given ∧ n.days = m.days := by
  have w1 := ntc_words n h.1
  have w2 := ntc_words m k.1
  rw [h.2, ← k.2, w2] at w1
  obtain ⟨a1, a2, _, a4, a5, a6, a7⟩ := noticeB_bd h.1
  obtain ⟨b1, b2, _, b4, b5, b6, b7⟩ := noticeB_bd k.1
  simp only [List.cons.injEq, true_and, and_true] at w1
  obtain ⟨e1, e2, e3, e4, _⟩ := w1
  have f1 : numS m.id = numS n.id := by have := congrArg (trm · 58) e1; simpa [trm_app] using this
  have f3 : numS m.given = numS n.given := by have := congrArg (trm · 44) e3; simpa [trm_app] using this
  exact ⟨(numS_inj f1 (by omega) (by omega) (by omega) (by omega)).symm, e2.symm, (numS_inj f3 (by omega) (by omega) (by omega) (by omega)).symm, (numS_inj e4 (by omega) (by omega) (by omega) (by omega)).symm⟩
open Classical in
noncomputable def pnV (s : ByteArray) : Value := if h : ∃ n, isT s n then .tuple #[.agg #[.int .i64 (Classical.choose h).id, .string (Classical.choose h).topic, .int .i64 (Classical.choose h).given, .int .i64 (Classical.choose h).days], .bool true] else .tuple #[.agg #[.int .i64 0, .string ⟨#[]⟩, .int .i64 0, .int .i64 0], .bool false]
theorem pnV_yes {s : ByteArray} {n : Ntc} (h : isT s n) : pnV s = .tuple #[.agg #[.int .i64 n.id, .string n.topic, .int .i64 n.given, .int .i64 n.days], .bool true] := by
  have hx : ∃ n, isT s n := ⟨n, h⟩
  obtain ⟨e1, e2, e3, e4⟩ := isT_uniq (Classical.choose_spec hx) h
  rw [pnV, dif_pos hx, e1, e2, e3, e4]
theorem pnV_no {s : ByteArray} (h : ¬ ∃ n, isT s n) : pnV s = .tuple #[.agg #[.int .i64 0, .string ⟨#[]⟩, .int .i64 0, .int .i64 0], .bool false] := by rw [pnV, dif_neg h]
theorem pnV_form (s : ByteArray) : ∃ (a : Int) (t : ByteArray) (g d : Int) (b : Bool), pnV s = .tuple #[.agg #[.int .i64 a, .string t, .int .i64 g, .int .i64 d], .bool b] := by
  unfold pnV; split <;> exact ⟨_, _, _, _, _, rfl⟩
theorem iParseV_is (s : ByteArray) (hs : s.size ≤ maxLen) (v : Int) (b : Bool) (h : rdOut s = .tuple #[.int .i64 v, .bool b]) (w : World) (HT : Tab w) (HE : Esy w) : Calls Tryz.prog 64 #[.string s] w fun e w' => e = .returned (.tuple #[.int .i64 v, .bool b]) ∧ Below w.heap.size w w' := by
  rw [← h]; exact iParseInt_is s hs w HT HE
theorem l1ReadV_is (s : ByteArray) (hs : s.size ≤ maxLen) (v : Int) (b : Bool) (h : rdOut s = .tuple #[.int .i64 v, .bool b]) (w : World) : Calls Tryz.prog 66 #[.string s] w fun e w' => e = .returned (.tuple #[.int .i64 v, .bool b]) ∧ Below w.heap.size w w' := by
  rw [← h]; exact l1Read_is s hs w
end Go.Proofs.YtbnncgahepcfnaaGreatDoor
