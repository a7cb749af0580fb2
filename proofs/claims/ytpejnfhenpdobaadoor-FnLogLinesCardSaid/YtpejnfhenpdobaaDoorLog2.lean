/- The log, by the program: all records of a text. -/
import Derived.Test.YtpejnfhenpdobaaDoorLog1
import Derived.Test.YtpejnfhenpdobaaDoorApp
import Derived.Test.YtpejnfhenpdobaaDoorInt2
import Derived.Deep.Cut
namespace Go.Proofs.YtpejnfhenpdobaaDoor
open Go.RowKit Go.G9
structure LRec where
  cmd : ByteArray
  rep : ByteArray
def LRec.cells (x : LRec) : List Value := [.string x.cmd, .string x.rep]
theorem LRec.cells_len (y : LRec) : y.cells.length = 2 := rfl
theorem LRec.cells_one (y : LRec) (u : Value) (h : u ∈ y.cells) : u.oneCell' = true := by simp [LRec.cells] at h; rcases h with rfl | rfl <;> rfl
def asRec (x : L8 × L8 × Nat) : LRec := ⟨bs x.1, bs x.2.1⟩
def asEnd (x : L8 × L8 × Nat) : Int := (x.2.2 : Nat)
def recsL (l : L8) : List LRec := (rdAll l).map asRec
def endsL (l : L8) : List Int := 0 :: (rdAll l).map asEnd
theorem heap_size2 (w : World) (a b : Obj) : ((w.alloc a).alloc b).heap.size = w.heap.size + 2 := by simp
theorem rdGo_len : ∀ (f k : Nat) (l : L8) (a : Nat), k ≤ 60 → (rdGo f k l a).length + k ≤ 60
  | 0, k, _, _, h => by simpa [rdGo] using h
  | f + 1, k, l, a, h => by
    unfold rdGo
    cases hx : rd1 l k with
    | none => simpa using h
    | some x =>
      obtain ⟨c, r, n⟩ := x
      have hk := (rd1_some hx).1
      have := rdGo_len f (k + 1) (l.drop n) (a + n) (by omega)
      simp; omega
theorem rdAll_len (l : L8) : (rdAll l).length ≤ 60 := rdGo_len 61 0 l 0 (by omega)
theorem info_LRec : (Tryd.prog.info? 27).map (fun i => (i.zero, i.size, i.bytes)) = some (some (.agg #[.string ⟨#[]⟩, .string ⟨#[]⟩]), 2, 32) := by kernel_rfl
set_option maxHeartbeats 4000000 in
set_option maxRecDepth 100000 in
theorem readRecords_is (l : L8) (hl : l.length ≤ 1048576) (w : World) (hT : Tab w) : Calls Tryd.prog 48 #[.string (bs l)] w fun e w' => ∃ A c A' c', e = .returned (.tuple #[.slice A (recsL l).length c, .slice A' (endsL l).length c']) ∧
    OwnV w.heap.size 27 2 LRec.cells w' (.slice A (recsL l).length c) (recsL l) ∧ OwnV w.heap.size 3 1 intC w' (.slice A' (endsL l).length c') (endsL l) ∧ Below w.heap.size w w' := by
  obtain ⟨i0, hi, hz0, hz1, hz2⟩ := info_parts info_LRec
  obtain ⟨i1, hi', hy0, hy1, hy2⟩ := info_parts info_int
  have hsz := bs_size l
  have hs1 : (bs l).size ≤ 1048576 := by omega
  have HS := Lib.hid hsz; clear hsz
  have hR0 := OwnV.built (B := w.heap.size) (f := LRec.cells) w ([] : List LRec) 27 (Nat.le_refl _) (by simp) LRec.cells_len
  have hE0 := OwnV.built (B := w.heap.size) (f := intC) (w.alloc (.cells #[] 27)) ([0] : List Int) 3 (by simp) (by simp [maxLen]) intC_len
  simp only [List.flatMap_cons, List.flatMap_nil, intC, List.append_nil] at hE0
  have HR0 := Lib.hid (hR0.alloc (.cells #[.int .i64 0] 3)); have HE0 := Lib.hid hE0; clear hR0 hE0
  go_enter Tryd.func48, Tryd.ntmps48
  go_wp2
  go_loopw [4, 5, 6] (fun v4 v5 v6 wr => ∃ (xs : List (L8 × L8 × Nat)) (a : Nat), rdAll l = xs ++ rdGo (61 - xs.length) xs.length (l.drop a) a ∧ xs.length ≤ 60 ∧ a ≤ (bs l).size ∧ v6 = .int .i64 a ∧
      OwnV w.heap.size 27 2 LRec.cells wr v4 (xs.map asRec) ∧ OwnV w.heap.size 3 1 intC wr v5 (0 :: xs.map asEnd) ∧ Ne2 v4 v5 ∧ Below w.heap.size w wr) (fun _ _ v6 _ => 1048577 - (intOf v6).toNat)
  case atStart =>
    refine ⟨[], 0, ?_, by simp, Nat.zero_le _, rfl, by simpa using HR0.out, by simpa using HE0.out, ?_, bl2 _ _ _⟩
    · rfl
    · intro k h1 h2
      simp [Value.ownBlock] at h1 h2
      omega
  case round =>
    obtain ⟨xs, a, hall, hxs, ha, rfl, hO, hE, hne, hb⟩ := hrel
    obtain ⟨A4, c4, rfl, hc4, _, _⟩ := hO.form LRec.cells_len
    obtain ⟨A5, c5, rfl, hc5, _, _⟩ := hE.form intC_len
    simp only [List.length_map, List.length_cons] at hO hE hne hc4 hc5 ⊢
    have hla : a ≤ l.length := by rw [← HS.out]; exact ha
    have hx : (bs l).extract a (bs l).size = bs (l.drop a) := by rw [bs_extract, bs_size, List.take_of_length_le (by simp)]
    have hf : ∃ f, 61 - xs.length = f + 1 ∧ f = 61 - (xs.length + 1) := ⟨60 - xs.length, by omega, by omega⟩
    obtain ⟨f, hf1, hf2⟩ := hf
    have hT' := hT.below hb
    have z0 := hb.size
    have lO := Lib.hid hO.lt; have lE := Lib.hid hE.lt
    cases hr : rd1 (l.drop a) xs.length with
    | none =>
      have hq : Calls Tryd.prog 69 #[.string ((bs l).extract a (bs l).size), .int .i64 xs.length] wr fun e w' => e = .returned (.tuple #[.agg #[.string (bs []), .string (bs [])], .int .i64 0, .bool false]) ∧ Below wr.heap.size wr w' := by
        rw [hx]; exact readRecord_is (l.drop a) (by simp; omega) xs.length hxs _ (by rw [rdOut, hr]) wr hT'
      have hdone : rdAll l = xs := by rw [hall, hf1, rdGo, hr]; simp
      have HQ := Lib.hid hq; have HD := Lib.hid hdone; have HO := Lib.hid hO; have HE := Lib.hid hE
      clear hq hdone hall hx hr hO hE hf1 hf2
      go_wp2_with fail
      refine HQ.out.mono ?_
      rintro e w1 ⟨rfl, hb1⟩
      go_wp2
      go_ret2
      have e1 : recsL l = xs.map asRec := by rw [recsL, HD.out]
      have e2 : endsL l = 0 :: xs.map asEnd := by rw [endsL, HD.out]
      rw [e1, e2]
      simp only [List.length_map, List.length_cons]
      exact ⟨A4, c4, A5, c5, rfl, (HO.out.later hb1).alloc _, (HE.out.later hb1).alloc _, (bth hb hb1).alloc (by have := hb1.size; omega) _⟩
    | some x =>
      obtain ⟨c, r, n⟩ := x
      have hn := rd1_len hr
      simp only [List.length_drop] at hn
      have hq : Calls Tryd.prog 69 #[.string ((bs l).extract a (bs l).size), .int .i64 xs.length] wr fun e w' => e = .returned (.tuple #[.agg #[.string (bs c), .string (bs r)], .int .i64 n, .bool true]) ∧ Below wr.heap.size wr w' := by
        rw [hx]; exact readRecord_is (l.drop a) (by simp; omega) xs.length hxs _ (by rw [rdOut, hr]) wr hT'
      have hk := (rd1_some hr).1
      have hnext : rdAll l = (xs ++ [(c, r, a + n)]) ++ rdGo (61 - (xs ++ [(c, r, a + n)]).length) (xs ++ [(c, r, a + n)]).length (l.drop (a + n)) (a + n) := by
        rw [hall, hf1, rdGo, hr]
        simp [hf2, List.drop_drop]
      have HQ := Lib.hid hq; have HN := Lib.hid hnext; have HO := Lib.hid hO; have HE := Lib.hid hE
      clear hq hnext hall hx hr hO hE hf1 hf2
      go_wp2_with fail
      refine HQ.out.mono ?_
      rintro e w1 ⟨rfl, hb1⟩
      have z1 := hb1.size
      have hO1 := Lib.hid (((HO.out.later hb1).alloc (.cells #[.string (bs c), .string (bs r)] 27)).alloc (.cells #[.string (bs c), .string (bs r)] 27))
      have hE1 := Lib.hid (((HE.out.later hb1).alloc (.cells #[.string (bs c), .string (bs r)] 27)).alloc (.cells #[.string (bs c), .string (bs r)] 27))
      have hone : Rds 2 LRec.cells ((w1.alloc (.cells #[.string (bs c), .string (bs r)] 27)).alloc (.cells #[.string (bs c), .string (bs r)] 27)) (some ⟨w1.heap.size + 1, 0, none⟩) [asRec (c, r, a + n)] := by
        have h := Rds.one (sz := 2) (f := LRec.cells) (w := w1.alloc (.cells #[.string (bs c), .string (bs r)] 27)) (asRec (c, r, a + n)) 27
        rw [show (w1.alloc (.cells #[.string (bs c), .string (bs r)] 27)).heap.size = w1.heap.size + 1 from by simp] at h
        exact h
      have HONE := Lib.hid hone; clear hone
      go_upto_region 7 with (at_builtin; refine wpList_app1 rfl _ _ 48 rfl w.heap.size 27 i0 _ 2 32 Tryd.underlying48 hi hz0 hz1 hz2 rfl (by decide) LRec.cells LRec.cells_len LRec.cells_one (.slice A4 xs.length c4) (xs.map asRec) rfl hO1.out ⟨w1.heap.size + 1, 0, none⟩ 1 (asRec (c, r, a + n)) rfl HONE.out (by unfold maxLen; simp; omega) (by simp; omega) (by simp; omega) ?_; intro v' w4 hO4 hg4 ha4)
      have z4 := hg4.size
      simp only [heap_size2] at z4
      have hE4 := hE1.out.ne hg4 hne
      have hne4 : Ne2 v' (.slice A5 (xs.length + 1) c5) := hne.step (fun k hk => by have := (lE.out k hk).2; simp; omega) ha4
      have lV := Lib.hid hO4.lt
      have hB4 : Below w.heap.size w w4 := (((bth hb hb1).alloc (by omega) _).alloc (by simp; omega) _).grown hg4 (by simp; omega) (fun k hk => (lO.out k hk).1)
      have HO4 := Lib.hid hO4; have HE4 := Lib.hid (hE4.alloc (.cells #[.int .i64 ((a : Int) + n)] 3)); have HNE := Lib.hid hne4; clear hO4 hE4 hne4 hg4 ha4
      go_wp2_with (at_builtin; refine wpList_app1 rfl _ _ 66 rfl w.heap.size 3 i1 _ 1 8 Tryd.underlying66 hi' hy0 hy1 hy2 rfl (by decide) intC intC_len intC_one (.slice A5 (xs.length + 1) c5) (0 :: xs.map asEnd) rfl HE4.out ⟨w4.heap.size, 0, none⟩ 1 ((a : Int) + n) rfl (Rds.one _ _) (by unfold maxLen; simp; omega) (by simp; omega) (by simp; omega) ?_; intro v5 w5 hO5 hg5 ha5)
      have z5 := hg5.size
      have hR5 := (HO4.out.alloc (.cells #[.int .i64 ((a : Int) + n)] 3)).ne hg5 HNE.out.symm
      have hne5 : Ne2 v' v5 := (HNE.out.symm.step (fun k hk => by have := (lV.out k hk).2; simp; omega) ha5).symm
      have hB5 : Below w.heap.size w w5 := (hB4.alloc (by omega) _).grown hg5 (by simp; omega) (fun k hk => (lE.out k hk).1)
      go_roundw
      case rel =>
        refine ⟨xs ++ [(c, r, a + n)], a + n, HN.out, by simp; omega, by rw [HS.out]; omega, by go_num, ?_, ?_, hne5, hB5⟩
        · rw [List.map_append]; exact hR5
        · rw [List.map_append]
          have e : ((a : Int) + n) = asEnd (c, r, a + n) := by simp [asEnd]
          rw [e] at hO5
          exact hO5
      case measure => simp [intOf]; omega
end Go.Proofs.YtpejnfhenpdobaaDoor
