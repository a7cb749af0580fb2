/- A result read from its line: the program's own function. -/
import Derived.Test.YtbnncgahepcfnaaGreatDoorRl14
import Derived.Test.YtbnncgahepcfnaaGreatDoorRl2
namespace Go.Proofs.YtbnncgahepcfnaaGreatDoor
open Go.RowKit Go.G9
theorem bytes_differ {a b : ByteArray} (h : a ≠ b) : (a.toList == b.toList) = false := strEq_no h
/-- The phrases for the needs stand, the empty one too. -/
def Phz (w : World) : Prop := 0 < w.heap.size ∧ ∀ (i : Nat) (s : ByteArray), phL[i]? = some s → w.cell? ⟨0, i, none⟩ = some (.string s)
theorem Phz.below {w w' : World} (h : Phz w) (hb : Below w.heap.size w w') : Phz w' := by
  obtain ⟨h1, h2⟩ := h
  exact ⟨Nat.lt_of_lt_of_le h1 hb.size, fun i s hi => (hb.cell (p := ⟨0, i, none⟩) h1).trans (h2 i s hi)⟩
theorem Phz.phr {w : World} (h : Phz w) : Phr w := ⟨h.1, ⟨#[]⟩, h.2⟩
theorem iCutV_is (s sep a b : ByteArray) (ha : ctA s sep = a) (hb : ctB s sep = b) (hs : s.size ≤ 1048576) (w : World) (hM : Mxl w) : Calls Tryz.prog 44 #[.string s, .string sep] w fun e w' => ∃ t : Bool, e = .returned (.tuple #[.string a, .string b, .bool t]) ∧ Below w.heap.size w w' := by
  rw [← ha, ← hb]; exact iCut_is s sep hs w hM
theorem idxPhr_is (x : ByteArray) (v : Int) (hv : Lib.idxOfS phL x = v) (w : World) (HP : Phz w) : Calls Tryz.prog 47 #[.slice (some ⟨0, 0, none⟩) 4 4, .string x] w fun e w' => e = .returned (.int .i64 v) ∧ w' = w := by
  have h := Tryz.slices_Index_string 0 0 4 4 phL x w (Nat.le_refl _) (by decide) (fun j hj => by
    have hj2 : j < 4 := hj
    rw [Nat.zero_add]
    obtain rfl | rfl | rfl | rfl : j = 0 ∨ j = 1 ∨ j = 2 ∨ j = 3 := by omega
    · exact HP.2 0 _ rfl
    · exact HP.2 1 _ rfl
    · exact HP.2 2 _ rfl
    · exact HP.2 3 _ rfl)
  rw [← hv]; exact h
def poS (nd : Int) : MkSpec Nat where
  par := fun _ => []
  val := fun n p => match n with
    | 3 => .int .i64 nd
    | 6 => .pointer (some ⟨p, 0, none⟩)
    | _ => undef
  post := fun n _ p V0 V => match n with
    | 6 => V0.heap.size = p ∧ Blk V p 27 #[.string ⟨#[]⟩, .int .i64 0, .int .i64 0, .int .i64 0, .int .i64 0]
    | _ => True
theorem spB_len {c : UInt8} {s : ByteArray} : (spB c s).length ≤ s.size + 1 := by
  have h := spl_len c s.data.toList
  have h2 : s.data.toList.length = s.size := by simp
  unfold spB; rw [List.length_map]; omega
set_option maxHeartbeats 8000000 in
set_option maxRecDepth 100000 in
theorem iParseOutcome_is (s : ByteArray) (hs : s.size ≤ 1048576) (w : World) (HT : Tab w) (HE : Esy w) (HM : Mxl w) (HP : Phz w) : Calls Tryz.prog 9 #[.string s] w fun e w' => e = .returned (resV (poO s)) ∧ Below w.heap.size w w' := by
  have hf : ∀ r, isR s r → _ := fun r h => po_facts h
  unfold poM poU poN at hf
  obtain ⟨z1, z2⟩ := ct_size s (⟨#[58, 32]⟩ : ByteArray)
  obtain ⟨m1, hm1⟩ : ∃ x, ctA s (⟨#[58, 32]⟩ : ByteArray) = x := ⟨_, rfl⟩
  obtain ⟨r1, hr1⟩ : ∃ x, ctB s (⟨#[58, 32]⟩ : ByteArray) = x := ⟨_, rfl⟩
  rw [hm1] at z1 hf; rw [hr1] at z2 hf
  obtain ⟨z3, z4⟩ := ct_size r1 (⟨#[44, 32, 110, 101, 101, 100, 115, 32]⟩ : ByteArray)
  obtain ⟨u1, hu1⟩ : ∃ x, ctA r1 (⟨#[44, 32, 110, 101, 101, 100, 115, 32]⟩ : ByteArray) = x := ⟨_, rfl⟩
  obtain ⟨e1, he1⟩ : ∃ x, ctB r1 (⟨#[44, 32, 110, 101, 101, 100, 115, 32]⟩ : ByteArray) = x := ⟨_, rfl⟩
  rw [hu1] at z3 hf; rw [he1] at z4 hf
  obtain ⟨n1, hn1⟩ : ∃ x, ctA e1 (⟨#[44, 32]⟩ : ByteArray) = x := ⟨_, rfl⟩
  obtain ⟨e2, he2⟩ : ∃ x, ctB e1 (⟨#[44, 32]⟩ : ByteArray) = x := ⟨_, rfl⟩
  rw [hn1] at hf
  obtain ⟨y, n, a, b, hpv⟩ := pvV_form (spB 32 u1)
  obtain ⟨nd, hnd⟩ : ∃ v, Lib.idxOfS phL n1 = v := ⟨_, rfl⟩
  rw [hpv, hnd] at hf
  have HF : Hid (∀ r, isR s r → m1 = r.motion ∧ nd = r.need ∧ y = r.yes ∧ n = r.no ∧ a = r.abst ∧ b = true) := Lib.hid (fun r h => by
    obtain ⟨q1, q2, q3⟩ := hf r h
    simp at q2
    obtain ⟨⟨q4, q5, q6⟩, q7⟩ := q2
    exact ⟨q1, q3, q4, q5, q6, q7⟩)
  have hr1s : r1.size ≤ 1048576 := by omega
  have he1s : e1.size ≤ 1048576 := by omega
  have hu1s : u1.size ≤ 1048576 := by omega
  have hms : m1.size ≤ maxLen := by unfold maxLen; omega
  have hul : (spB 32 u1).length ≤ 1048577 := by have := spB_len (c := 32) (s := u1); omega
  have huk : ∀ (k : Nat) (x : ByteArray), (spB 32 u1)[k]? = some x → x.size ≤ 1048576 := fun k x hx => by have := spB_size hx; omega
  have K1 := Lib.hid hm1; have K2 := Lib.hid hr1; have K3 := Lib.hid hu1; have K4 := Lib.hid he1; have K5 := Lib.hid hn1; have K6 := Lib.hid he2; have K7 := Lib.hid hpv; have K8 := Lib.hid hnd; have K9 := Lib.hid huk
  clear hm1 hr1 hu1 he1 hn1 he2 hpv hnd hf huk z1 z2 z3 z4
  have HP0 := Lib.hid HP; have HT0 := Lib.hid HT
  go_enter Tryz.func9, Tryz.ntmps9
  go_upto_region 1 with fail
  have hq1 : Below w.heap.size w (World.alloc w (.cells #[.string ⟨#[]⟩, .int .i64 0, .int .i64 0, .int .i64 0, .int .i64 0] 27)) := bl1 w _
  have hZ : Blk (World.alloc w (.cells #[.string ⟨#[]⟩, .int .i64 0, .int .i64 0, .int .i64 0, .int .i64 0] 27)) (w.heap.size) 27 #[.string ⟨#[]⟩, .int .i64 0, .int .i64 0, .int .i64 0, .int .i64 0] := by repeat (first | exact Blk.new _ _ _ | exact Blk.new2 _ _ _ _ | exact Blk.new3 _ _ _ _ _ | exact Blk.new4 _ _ _ _ _ _ | refine Blk.alloc ?_ _)
  replace HT := HT.below hq1
  replace HE := HE.below hq1
  replace HM := HM.below hq1
  replace HP := HP.below hq1
  generalize World.alloc w (.cells #[.string ⟨#[]⟩, .int .i64 0, .int .i64 0, .int .i64 0, .int .i64 0] 27) = wX at *
  have HB := hq1
  have z0 := (hZ.cell 0).trans (show _ = some (.string ⟨#[]⟩) from rfl)
  have z1 := (hZ.cell 1).trans (show _ = some (.int .i64 0) from rfl)
  have z2 := (hZ.cell 2).trans (show _ = some (.int .i64 0) from rfl)
  have z3 := (hZ.cell 3).trans (show _ = some (.int .i64 0) from rfl)
  have z4 := (hZ.cell 4).trans (show _ = some (.int .i64 0) from rfl)
  have hz0' := hZ.lt
  go_wp2_with fail
  refine (iCutV_is s (⟨#[58, 32]⟩ : ByteArray) m1 r1 K1.out K2.out hs _ (HM.below (by repeat (first | exact Below.refl _ _ | refine Below.alloc ?_ (by first | exact Nat.le_refl _ | (simp <;> omega)) _ | refine Below.setCell ?_ (by first | exact Nat.le_refl _ | (simp <;> omega)) _)))).mono ?_
  rintro e w2 ⟨t1, rfl, hb2⟩
  have hq2 : Below wX.heap.size wX w2 := bth (by repeat (first | exact Below.refl _ _ | refine Below.alloc ?_ (by first | exact Nat.le_refl _ | (simp <;> omega)) _ | refine Below.setCell ?_ (by first | exact Nat.le_refl _ | (simp <;> omega)) _)) hb2
  replace HB := bth HB hq2
  replace HT := HT.below hq2
  replace HE := HE.below hq2
  replace HM := HM.below hq2
  replace HP := HP.below hq2
  replace hZ := hZ.below hq2 hZ.lt
  replace z0 := (hZ.cell 0).trans (show _ = some (.string ⟨#[]⟩) from rfl)
  replace z1 := (hZ.cell 1).trans (show _ = some (.int .i64 0) from rfl)
  replace z2 := (hZ.cell 2).trans (show _ = some (.int .i64 0) from rfl)
  replace z3 := (hZ.cell 3).trans (show _ = some (.int .i64 0) from rfl)
  replace z4 := (hZ.cell 4).trans (show _ = some (.int .i64 0) from rfl)
  go_wp2_with fail
  refine (iCutV_is r1 (⟨#[44, 32, 110, 101, 101, 100, 115, 32]⟩ : ByteArray) u1 e1 K3.out K4.out (by omega) _ (HM.below (by repeat (first | exact Below.refl _ _ | refine Below.alloc ?_ (by first | exact Nat.le_refl _ | (simp <;> omega)) _ | refine Below.setCell ?_ (by first | exact Nat.le_refl _ | (simp <;> omega)) _)))).mono ?_
  rintro e w3 ⟨t2, rfl, hb3⟩
  have hq3 : Below w2.heap.size w2 w3 := bth (by repeat (first | exact Below.refl _ _ | refine Below.alloc ?_ (by first | exact Nat.le_refl _ | (simp <;> omega)) _ | refine Below.setCell ?_ (by first | exact Nat.le_refl _ | (simp <;> omega)) _)) hb3
  replace HB := bth HB hq3
  replace HT := HT.below hq3
  replace HE := HE.below hq3
  replace HM := HM.below hq3
  replace HP := HP.below hq3
  replace hZ := hZ.below hq3 hZ.lt
  replace z0 := (hZ.cell 0).trans (show _ = some (.string ⟨#[]⟩) from rfl)
  replace z1 := (hZ.cell 1).trans (show _ = some (.int .i64 0) from rfl)
  replace z2 := (hZ.cell 2).trans (show _ = some (.int .i64 0) from rfl)
  replace z3 := (hZ.cell 3).trans (show _ = some (.int .i64 0) from rfl)
  replace z4 := (hZ.cell 4).trans (show _ = some (.int .i64 0) from rfl)
  go_wp2_with fail
  refine (iCutV_is e1 (⟨#[44, 32]⟩ : ByteArray) n1 e2 K5.out K6.out (by omega) _ (HM.below (by repeat (first | exact Below.refl _ _ | refine Below.alloc ?_ (by first | exact Nat.le_refl _ | (simp <;> omega)) _ | refine Below.setCell ?_ (by first | exact Nat.le_refl _ | (simp <;> omega)) _)))).mono ?_
  rintro e w4 ⟨t3, rfl, hb4⟩
  have hq4 : Below w3.heap.size w3 w4 := bth (by repeat (first | exact Below.refl _ _ | refine Below.alloc ?_ (by first | exact Nat.le_refl _ | (simp <;> omega)) _ | refine Below.setCell ?_ (by first | exact Nat.le_refl _ | (simp <;> omega)) _)) hb4
  replace HB := bth HB hq4
  replace HT := HT.below hq4
  replace HE := HE.below hq4
  replace HM := HM.below hq4
  replace HP := HP.below hq4
  replace hZ := hZ.below hq4 hZ.lt
  replace z0 := (hZ.cell 0).trans (show _ = some (.string ⟨#[]⟩) from rfl)
  replace z1 := (hZ.cell 1).trans (show _ = some (.int .i64 0) from rfl)
  replace z2 := (hZ.cell 2).trans (show _ = some (.int .i64 0) from rfl)
  replace z3 := (hZ.cell 3).trans (show _ = some (.int .i64 0) from rfl)
  replace z4 := (hZ.cell 4).trans (show _ = some (.int .i64 0) from rfl)
  go_wp2_with fail
  refine (iSplit_is u1 32 (by omega) _ (HM.below (by repeat (first | exact Below.refl _ _ | refine Below.alloc ?_ (by first | exact Nat.le_refl _ | (simp <;> omega)) _ | refine Below.setCell ?_ (by first | exact Nat.le_refl _ | (simp <;> omega)) _)))).mono ?_
  rintro e w5 ⟨A4, c4, rfl, O4, hb5⟩
  have hq5 : Below w4.heap.size w4 w5 := bth (by repeat (first | exact Below.refl _ _ | refine Below.alloc ?_ (by first | exact Nat.le_refl _ | (simp <;> omega)) _ | refine Below.setCell ?_ (by first | exact Nat.le_refl _ | (simp <;> omega)) _)) hb5
  replace HB := bth HB hq5
  replace HT := HT.below hq5
  replace HE := HE.below hq5
  replace HM := HM.below hq5
  replace HP := HP.below hq5
  replace hZ := hZ.below hq5 hZ.lt
  replace z0 := (hZ.cell 0).trans (show _ = some (.string ⟨#[]⟩) from rfl)
  replace z1 := (hZ.cell 1).trans (show _ = some (.int .i64 0) from rfl)
  replace z2 := (hZ.cell 2).trans (show _ = some (.int .i64 0) from rfl)
  replace z3 := (hZ.cell 3).trans (show _ = some (.int .i64 0) from rfl)
  replace z4 := (hZ.cell 4).trans (show _ = some (.int .i64 0) from rfl)
  have Q4 := O4.rds (hf := bC_len)
  clear O4
  go_wp2_with fail
  refine (parseVotes_is A4 c4 (spB 32 u1) hul K9.out _ K7.out _ (Q4.below (by repeat (first | exact Below.refl _ _ | refine Below.alloc ?_ (by first | exact Nat.le_refl _ | (simp <;> omega)) _ | refine Below.setCell ?_ (by first | exact Nat.le_refl _ | (simp <;> omega)) _))) (HT.below (by repeat (first | exact Below.refl _ _ | refine Below.alloc ?_ (by first | exact Nat.le_refl _ | (simp <;> omega)) _ | refine Below.setCell ?_ (by first | exact Nat.le_refl _ | (simp <;> omega)) _))) (HE.below (by repeat (first | exact Below.refl _ _ | refine Below.alloc ?_ (by first | exact Nat.le_refl _ | (simp <;> omega)) _ | refine Below.setCell ?_ (by first | exact Nat.le_refl _ | (simp <;> omega)) _)))).mono ?_
  rintro e w6 ⟨rfl, hb6⟩
  have hq6 : Below w5.heap.size w5 w6 := bth (by repeat (first | exact Below.refl _ _ | refine Below.alloc ?_ (by first | exact Nat.le_refl _ | (simp <;> omega)) _ | refine Below.setCell ?_ (by first | exact Nat.le_refl _ | (simp <;> omega)) _)) hb6
  replace HB := bth HB hq6
  replace HT := HT.below hq6
  replace HE := HE.below hq6
  replace HM := HM.below hq6
  replace HP := HP.below hq6
  replace hZ := hZ.below hq6 hZ.lt
  replace z0 := (hZ.cell 0).trans (show _ = some (.string ⟨#[]⟩) from rfl)
  replace z1 := (hZ.cell 1).trans (show _ = some (.int .i64 0) from rfl)
  replace z2 := (hZ.cell 2).trans (show _ = some (.int .i64 0) from rfl)
  replace z3 := (hZ.cell 3).trans (show _ = some (.int .i64 0) from rfl)
  replace z4 := (hZ.cell 4).trans (show _ = some (.int .i64 0) from rfl)
  clear Q4
  have hzw := hZ.lt
  go_upto_region 5 with fail
  clear z0 z1 z2 z3 z4
  have hq7 : Below w6.heap.size w6 (World.alloc w6 (.cells #[.int .i64 y, .int .i64 n, .int .i64 a] 25)) := bl1 w6 _
  have hV : Blk (World.alloc w6 (.cells #[.int .i64 y, .int .i64 n, .int .i64 a] 25)) (w6.heap.size) 25 #[.int .i64 y, .int .i64 n, .int .i64 a] := by repeat (first | exact Blk.new _ _ _ | exact Blk.new2 _ _ _ _ | exact Blk.new3 _ _ _ _ _ | exact Blk.new4 _ _ _ _ _ _ | refine Blk.alloc ?_ _)
  replace HT := HT.below hq7
  replace HE := HE.below hq7
  replace HM := HM.below hq7
  replace HP := HP.below hq7
  generalize World.alloc w6 (.cells #[.int .i64 y, .int .i64 n, .int .i64 a] 25) = wV at *
  replace HB := bth HB hq7
  have v0 := (hV.cell 0).trans (show _ = some (.int .i64 y) from rfl)
  have v1 := (hV.cell 1).trans (show _ = some (.int .i64 n) from rfl)
  have v2 := (hV.cell 2).trans (show _ = some (.int .i64 a) from rfl)
  replace hZ := hZ.below hq7 hZ.lt
  have z0 := (hZ.cell 0).trans (show _ = some (.string ⟨#[]⟩) from rfl)
  have z1 := (hZ.cell 1).trans (show _ = some (.int .i64 0) from rfl)
  have z2 := (hZ.cell 2).trans (show _ = some (.int .i64 0) from rfl)
  have z3 := (hZ.cell 3).trans (show _ = some (.int .i64 0) from rfl)
  have z4 := (hZ.cell 4).trans (show _ = some (.int .i64 0) from rfl)
  have hs2 := hZ.lt
  have hs3 := hV.lt
  obtain ⟨CC8, hCC8⟩ : ∃ X : World → Prop, ∀ V, X V ↔ (Below w.heap.size w V ∧ Blk V (w6.heap.size) 25 #[.int .i64 y, .int .i64 n, .int .i64 a]) := ⟨_, fun _ => Iff.rfl⟩
  have HCC8 := Lib.hid hCC8; clear hCC8
  haveI : Nonempty (Hld CC8) := ⟨⟨wV, ((HCC8.out _).2 ⟨HB, hV⟩)⟩⟩
  clear v0 v1 v2
  clear z0 z1 z2 z3 z4
  have v0 := fun K : Hld CC8 => (((HCC8.out _).1 K.holds).2.cell 0).trans (show _ = some (.int .i64 y) from rfl)
  have v1 := fun K : Hld CC8 => (((HCC8.out _).1 K.holds).2.cell 1).trans (show _ = some (.int .i64 n) from rfl)
  have v2 := fun K : Hld CC8 => (((HCC8.out _).1 K.holds).2.cell 2).trans (show _ = some (.int .i64 a) from rfl)
  refine wp_region_mk (poS nd) CC8 [([1, 2], 3), ([], 6)] [0, 4, 5] [([], 7)] [] (by kernel_rfl) (by kernel_rfl) ((HCC8.out _).2 ⟨HB.drew, hV⟩) (fun W W' h k => ((HCC8.out _).2 ⟨((HCC8.out _).1 h).1.trans (k.mono ((HCC8.out _).1 h).1.size), ((HCC8.out _).1 h).2.below k ((HCC8.out _).1 h).2.lt⟩)) ?_
  intro σ
  refine wpMk1_cons (some 43) rfl (.int .i64 nd) rfl fun K1 hK1 => ?_
  change wpQuiet _ _ _ _ (_ :: _ :: []) _
  repeat (go_big_quiet_step (fail))
  refine wpQuiet_nil ?_
  refine ⟨fun k hpar => ?_, hK1 _ ?_⟩
  · change wpList _ _ _ (_ :: []) _ _
    go_wp2_with fail
    refine (idxPhr_is n1 nd K8.out _ (HP0.out.below ((HCC8.out _).1 k.holds).1)).mono ?_
    rintro e w9 ⟨rfl, rfl⟩
    go_wp2
    exact Nrm_mk ⟨0, rfl, Below.refl _ _, trivial⟩
  simp only [Act.put]
  go_simp
  refine wpMk1_cons (some 15) rfl (.pointer (some ⟨σ 6, 0, none⟩)) rfl fun K1 hK1 => ?_
  change wpQuiet _ _ _ _ ([]) _
  refine wpQuiet_nil ?_
  refine ⟨fun k hpar => ?_, hK1 _ ?_⟩
  · change wpList _ _ _ (_ :: []) _ _
    go_wp2
    exact Nrm_mk ⟨k.world.heap.size, rfl, bl1 _ _, rfl, Blk.new _ _ _⟩
  simp only [Act.put]
  go_simp
  refine wpMk1_last ?_
  change wpQuiet _ _ _ _ (_ :: _ :: _ :: []) _
  repeat (go_big_quiet_step (fail))
  refine wpQuiet_nil ?_
  intro V0 V W hM hW
  obtain ⟨hg, hG⟩ : (V0 6).heap.size = σ 6 ∧ Blk (V 6) (σ 6) 27 #[.string ⟨#[]⟩, .int .i64 0, .int .i64 0, .int .i64 0, .int .i64 0] := hM.post 6 (by simp)
  have hz11 : wV.heap.size ≤ σ 6 := hg ▸ (hM.from0 6 (by simp)).size
  have hGG := hG.below (hM.later 6 (by simp)) hG.lt
  clear v0 v1 v2
  have hq9 : Below wV.heap.size wV W := bth (by repeat (first | exact Below.refl _ _ | refine Below.alloc ?_ (by first | exact Nat.le_refl _ | (simp <;> omega)) _ | refine Below.setCell ?_ (by first | exact Nat.le_refl _ | (simp <;> omega)) _)) (hM.whole 3 (by simp)).undrew
  replace HB := bth HB hq9
  replace HT := HT.below hq9
  replace HE := HE.below hq9
  replace HM := HM.below hq9
  replace HP := HP.below hq9
  replace hV := hV.below hq9 hV.lt
  have v0 := (hV.cell 0).trans (show _ = some (.int .i64 y) from rfl)
  have v1 := (hV.cell 1).trans (show _ = some (.int .i64 n) from rfl)
  have v2 := (hV.cell 2).trans (show _ = some (.int .i64 a) from rfl)
  replace hZ := hZ.below hq9 hZ.lt
  have z0 := (hZ.cell 0).trans (show _ = some (.string ⟨#[]⟩) from rfl)
  have z1 := (hZ.cell 1).trans (show _ = some (.int .i64 0) from rfl)
  have z2 := (hZ.cell 2).trans (show _ = some (.int .i64 0) from rfl)
  have z3 := (hZ.cell 3).trans (show _ = some (.int .i64 0) from rfl)
  have z4 := (hZ.cell 4).trans (show _ = some (.int .i64 0) from rfl)
  clear hM hG hg hW
  generalize σ 6 = g at *
  have g0 := (hGG.cell 0).trans (show _ = some (.string ⟨#[]⟩) from rfl)
  have g1 := (hGG.cell 1).trans (show _ = some (.int .i64 0) from rfl)
  have g2 := (hGG.cell 2).trans (show _ = some (.int .i64 0) from rfl)
  have g3 := (hGG.cell 3).trans (show _ = some (.int .i64 0) from rfl)
  have g4 := (hGG.cell 4).trans (show _ = some (.int .i64 0) from rfl)
  refine wpMix_cons fun K2 hK2 => ?_
  change wpQuiet _ _ _ _ ([]) _
  refine wpQuiet_nil ?_
  change wpList _ _ _ (_ :: []) _ _
  have fhGG0 := hGG.frozen 0
  have fhGG1 := hGG.frozen 1
  have fhGG2 := hGG.frozen 2
  have fhGG3 := hGG.frozen 3
  have fhGG4 := hGG.frozen 4
  have yhV := hV.lt
  have yhZ := hZ.lt
  have yhGG := hGG.lt
  go_wp2
  clear fhGG0 fhGG1 fhGG2 fhGG3 fhGG4
  have hG0 : w.heap.size ≤ g := by have := HB.size; omega
  have hGX : w.heap.size ≠ g := by omega
  clear v0 v1 v2 z0 z1 z2 z3 z4 g0 g1 g2 g3 g4
  replace HB : Below w.heap.size w (World.setCell (World.setCell (World.setCell (World.setCell (World.setCell W ⟨g, 0, none⟩ (.string m1)) ⟨g, 1, none⟩ (.int .i64 nd)) ⟨g, 2, none⟩ (.int .i64 y)) ⟨g, 3, none⟩ (.int .i64 n)) ⟨g, 4, none⟩ (.int .i64 a)) := (((((HB.setCell (by show w.heap.size ≤ g; omega) (.string m1) (p := ⟨g, 0, none⟩)).setCell (by show w.heap.size ≤ g; omega) (.int .i64 nd) (p := ⟨g, 1, none⟩)).setCell (by show w.heap.size ≤ g; omega) (.int .i64 y) (p := ⟨g, 2, none⟩)).setCell (by show w.heap.size ≤ g; omega) (.int .i64 n) (p := ⟨g, 3, none⟩)).setCell (by show w.heap.size ≤ g; omega) (.int .i64 a) (p := ⟨g, 4, none⟩))
  replace hV := (((((hV.far' (p := ⟨g, 0, none⟩) (by show _ ≠ g; omega) (.string m1)).far' (p := ⟨g, 1, none⟩) (by show _ ≠ g; omega) (.int .i64 nd)).far' (p := ⟨g, 2, none⟩) (by show _ ≠ g; omega) (.int .i64 y)).far' (p := ⟨g, 3, none⟩) (by show _ ≠ g; omega) (.int .i64 n)).far' (p := ⟨g, 4, none⟩) (by show _ ≠ g; omega) (.int .i64 a))
  replace hZ := (((((hZ.far' (p := ⟨g, 0, none⟩) (by show _ ≠ g; omega) (.string m1)).far' (p := ⟨g, 1, none⟩) (by show _ ≠ g; omega) (.int .i64 nd)).far' (p := ⟨g, 2, none⟩) (by show _ ≠ g; omega) (.int .i64 y)).far' (p := ⟨g, 3, none⟩) (by show _ ≠ g; omega) (.int .i64 n)).far' (p := ⟨g, 4, none⟩) (by show _ ≠ g; omega) (.int .i64 a))
  replace hGG : Blk (World.setCell (World.setCell (World.setCell (World.setCell (World.setCell W ⟨g, 0, none⟩ (.string m1)) ⟨g, 1, none⟩ (.int .i64 nd)) ⟨g, 2, none⟩ (.int .i64 y)) ⟨g, 3, none⟩ (.int .i64 n)) ⟨g, 4, none⟩ (.int .i64 a)) (g) 27 #[.string m1, .int .i64 nd, .int .i64 y, .int .i64 n, .int .i64 a] := (((((hGG.set_ 0 (.string m1)).set_ 1 (.int .i64 nd)).set_ 2 (.int .i64 y)).set_ 3 (.int .i64 n)).set_ 4 (.int .i64 a))
  generalize World.setCell (World.setCell (World.setCell (World.setCell (World.setCell W ⟨g, 0, none⟩ (.string m1)) ⟨g, 1, none⟩ (.int .i64 nd)) ⟨g, 2, none⟩ (.int .i64 y)) ⟨g, 3, none⟩ (.int .i64 n)) ⟨g, 4, none⟩ (.int .i64 a) = W3 at *
  have v0 := (hV.cell 0).trans (show _ = some (.int .i64 y) from rfl)
  have v1 := (hV.cell 1).trans (show _ = some (.int .i64 n) from rfl)
  have v2 := (hV.cell 2).trans (show _ = some (.int .i64 a) from rfl)
  have z0 := (hZ.cell 0).trans (show _ = some (.string ⟨#[]⟩) from rfl)
  have z1 := (hZ.cell 1).trans (show _ = some (.int .i64 0) from rfl)
  have z2 := (hZ.cell 2).trans (show _ = some (.int .i64 0) from rfl)
  have z3 := (hZ.cell 3).trans (show _ = some (.int .i64 0) from rfl)
  have z4 := (hZ.cell 4).trans (show _ = some (.int .i64 0) from rfl)
  have g0 := (hGG.cell 0).trans (show _ = some (.string m1) from rfl)
  have g1 := (hGG.cell 1).trans (show _ = some (.int .i64 nd) from rfl)
  have g2 := (hGG.cell 2).trans (show _ = some (.int .i64 y) from rfl)
  have g3 := (hGG.cell 3).trans (show _ = some (.int .i64 n) from rfl)
  have g4 := (hGG.cell 4).trans (show _ = some (.int .i64 a) from rfl)
  refine Nrm_intro (((HCC8.out _).2 ⟨HB, hV⟩)) (hK2 _ _ ?_)
  refine wpMix_last ?_
  change wpQuiet _ _ _ _ ([]) _
  refine wpQuiet_nil ?_
  clear yhV yhZ yhGG
  cases b
  · have HNO : Hid (¬ ∃ r, isR s r) := Lib.hid (fun ⟨r, h⟩ => by have := (HF.out r h).2.2.2.2.2; cases this)
    have fhZ0 := hZ.frozen 0
    have fhZ1 := hZ.frozen 1
    have fhZ2 := hZ.frozen 2
    have fhZ3 := hZ.frozen 3
    have fhZ4 := hZ.frozen 4
    have yhV := hV.lt
    have yhZ := hZ.lt
    have yhGG := hGG.lt
    go_wp2
    clear v0 v1 v2 z0 z1 z2 z3 z4 g0 g1 g2 g3 g4
    replace HB : Below w.heap.size w (World.setCell (World.setCell (World.setCell (World.setCell (World.setCell W3 ⟨w.heap.size, 0, none⟩ (.string ⟨#[]⟩)) ⟨w.heap.size, 1, none⟩ (.int .i64 0)) ⟨w.heap.size, 2, none⟩ (.int .i64 0)) ⟨w.heap.size, 3, none⟩ (.int .i64 0)) ⟨w.heap.size, 4, none⟩ (.int .i64 0)) := (((((HB.setCell (by show w.heap.size ≤ w.heap.size; omega) (.string ⟨#[]⟩) (p := ⟨w.heap.size, 0, none⟩)).setCell (by show w.heap.size ≤ w.heap.size; omega) (.int .i64 0) (p := ⟨w.heap.size, 1, none⟩)).setCell (by show w.heap.size ≤ w.heap.size; omega) (.int .i64 0) (p := ⟨w.heap.size, 2, none⟩)).setCell (by show w.heap.size ≤ w.heap.size; omega) (.int .i64 0) (p := ⟨w.heap.size, 3, none⟩)).setCell (by show w.heap.size ≤ w.heap.size; omega) (.int .i64 0) (p := ⟨w.heap.size, 4, none⟩))
    replace hV := (((((hV.far' (p := ⟨w.heap.size, 0, none⟩) (by show _ ≠ w.heap.size; omega) (.string ⟨#[]⟩)).far' (p := ⟨w.heap.size, 1, none⟩) (by show _ ≠ w.heap.size; omega) (.int .i64 0)).far' (p := ⟨w.heap.size, 2, none⟩) (by show _ ≠ w.heap.size; omega) (.int .i64 0)).far' (p := ⟨w.heap.size, 3, none⟩) (by show _ ≠ w.heap.size; omega) (.int .i64 0)).far' (p := ⟨w.heap.size, 4, none⟩) (by show _ ≠ w.heap.size; omega) (.int .i64 0))
    replace hZ : Blk (World.setCell (World.setCell (World.setCell (World.setCell (World.setCell W3 ⟨w.heap.size, 0, none⟩ (.string ⟨#[]⟩)) ⟨w.heap.size, 1, none⟩ (.int .i64 0)) ⟨w.heap.size, 2, none⟩ (.int .i64 0)) ⟨w.heap.size, 3, none⟩ (.int .i64 0)) ⟨w.heap.size, 4, none⟩ (.int .i64 0)) (w.heap.size) 27 #[.string ⟨#[]⟩, .int .i64 0, .int .i64 0, .int .i64 0, .int .i64 0] := (((((hZ.set_ 0 (.string ⟨#[]⟩)).set_ 1 (.int .i64 0)).set_ 2 (.int .i64 0)).set_ 3 (.int .i64 0)).set_ 4 (.int .i64 0))
    replace hGG := (((((hGG.far' (p := ⟨w.heap.size, 0, none⟩) (by show _ ≠ w.heap.size; omega) (.string ⟨#[]⟩)).far' (p := ⟨w.heap.size, 1, none⟩) (by show _ ≠ w.heap.size; omega) (.int .i64 0)).far' (p := ⟨w.heap.size, 2, none⟩) (by show _ ≠ w.heap.size; omega) (.int .i64 0)).far' (p := ⟨w.heap.size, 3, none⟩) (by show _ ≠ w.heap.size; omega) (.int .i64 0)).far' (p := ⟨w.heap.size, 4, none⟩) (by show _ ≠ w.heap.size; omega) (.int .i64 0))
    have szW9 : ((World.setCell (World.setCell (World.setCell (World.setCell (World.setCell W3 ⟨w.heap.size, 0, none⟩ (.string ⟨#[]⟩)) ⟨w.heap.size, 1, none⟩ (.int .i64 0)) ⟨w.heap.size, 2, none⟩ (.int .i64 0)) ⟨w.heap.size, 3, none⟩ (.int .i64 0)) ⟨w.heap.size, 4, none⟩ (.int .i64 0))).heap.size = W3.heap.size := by simp [World.setCell]
    generalize World.setCell (World.setCell (World.setCell (World.setCell (World.setCell W3 ⟨w.heap.size, 0, none⟩ (.string ⟨#[]⟩)) ⟨w.heap.size, 1, none⟩ (.int .i64 0)) ⟨w.heap.size, 2, none⟩ (.int .i64 0)) ⟨w.heap.size, 3, none⟩ (.int .i64 0)) ⟨w.heap.size, 4, none⟩ (.int .i64 0) = W9 at *
    have v0 := (hV.cell 0).trans (show _ = some (.int .i64 y) from rfl)
    have v1 := (hV.cell 1).trans (show _ = some (.int .i64 n) from rfl)
    have v2 := (hV.cell 2).trans (show _ = some (.int .i64 a) from rfl)
    have z0 := (hZ.cell 0).trans (show _ = some (.string ⟨#[]⟩) from rfl)
    have z1 := (hZ.cell 1).trans (show _ = some (.int .i64 0) from rfl)
    have z2 := (hZ.cell 2).trans (show _ = some (.int .i64 0) from rfl)
    have z3 := (hZ.cell 3).trans (show _ = some (.int .i64 0) from rfl)
    have z4 := (hZ.cell 4).trans (show _ = some (.int .i64 0) from rfl)
    have g0 := (hGG.cell 0).trans (show _ = some (.string m1) from rfl)
    have g1 := (hGG.cell 1).trans (show _ = some (.int .i64 nd) from rfl)
    have g2 := (hGG.cell 2).trans (show _ = some (.int .i64 y) from rfl)
    have g3 := (hGG.cell 3).trans (show _ = some (.int .i64 n) from rfl)
    have g4 := (hGG.cell 4).trans (show _ = some (.int .i64 a) from rfl)
    refine bodyPost_ret (v := .tuple #[.agg #[.string ⟨#[]⟩, .int .i64 0, .int .i64 0, .int .i64 0, .int .i64 0], .bool false]) (by simp [results, Tryz.results9, go_sem, z0, z1, z2, z3, z4]) rfl ?_
    exact ⟨by rw [poO_no HNO.out]; rfl, HB⟩
  cases hv : resB ⟨m1, nd, y, n, a, hms⟩
  · have HNO : Hid (¬ ∃ r, isR s r) := Lib.hid (fun ⟨r, h⟩ => by
      obtain ⟨e1, e2, e3, e4, e5, _⟩ := HF.out r h
      have h1 := h.1
      obtain ⟨rm, rn, ry, ro, ra, rs⟩ := r
      simp only at e1 e2 e3 e4 e5
      subst e1 e2 e3 e4 e5
      rw [hv] at h1; cases h1)
    have HV := Lib.hid hv; clear hv
    go_wp2_with fail
    refine (isResult_is m1 nd y n a hms _ HV.out _).mono ?_
    rintro e w10 ⟨rfl, hb10⟩
    have hq10 : Below W3.heap.size W3 w10 := bth (by repeat (first | exact Below.refl _ _ | refine Below.alloc ?_ (by first | exact Nat.le_refl _ | (simp <;> omega)) _ | refine Below.setCell ?_ (by first | exact Nat.le_refl _ | (simp <;> omega)) _)) hb10
    replace HB := bth HB hq10
    replace hV := hV.below hq10 hV.lt
    replace v0 := (hV.cell 0).trans (show _ = some (.int .i64 y) from rfl)
    replace v1 := (hV.cell 1).trans (show _ = some (.int .i64 n) from rfl)
    replace v2 := (hV.cell 2).trans (show _ = some (.int .i64 a) from rfl)
    replace hZ := hZ.below hq10 hZ.lt
    replace z0 := (hZ.cell 0).trans (show _ = some (.string ⟨#[]⟩) from rfl)
    replace z1 := (hZ.cell 1).trans (show _ = some (.int .i64 0) from rfl)
    replace z2 := (hZ.cell 2).trans (show _ = some (.int .i64 0) from rfl)
    replace z3 := (hZ.cell 3).trans (show _ = some (.int .i64 0) from rfl)
    replace z4 := (hZ.cell 4).trans (show _ = some (.int .i64 0) from rfl)
    replace hGG := hGG.below hq10 hGG.lt
    replace g0 := (hGG.cell 0).trans (show _ = some (.string m1) from rfl)
    replace g1 := (hGG.cell 1).trans (show _ = some (.int .i64 nd) from rfl)
    replace g2 := (hGG.cell 2).trans (show _ = some (.int .i64 y) from rfl)
    replace g3 := (hGG.cell 3).trans (show _ = some (.int .i64 n) from rfl)
    replace g4 := (hGG.cell 4).trans (show _ = some (.int .i64 a) from rfl)
    have fhZ0 := hZ.frozen 0
    have fhZ1 := hZ.frozen 1
    have fhZ2 := hZ.frozen 2
    have fhZ3 := hZ.frozen 3
    have fhZ4 := hZ.frozen 4
    have yhV := hV.lt
    have yhZ := hZ.lt
    have yhGG := hGG.lt
    go_wp2
    clear v0 v1 v2 z0 z1 z2 z3 z4 g0 g1 g2 g3 g4
    replace HB : Below w.heap.size w (World.setCell (World.setCell (World.setCell (World.setCell (World.setCell w10 ⟨w.heap.size, 0, none⟩ (.string ⟨#[]⟩)) ⟨w.heap.size, 1, none⟩ (.int .i64 0)) ⟨w.heap.size, 2, none⟩ (.int .i64 0)) ⟨w.heap.size, 3, none⟩ (.int .i64 0)) ⟨w.heap.size, 4, none⟩ (.int .i64 0)) := (((((HB.setCell (by show w.heap.size ≤ w.heap.size; omega) (.string ⟨#[]⟩) (p := ⟨w.heap.size, 0, none⟩)).setCell (by show w.heap.size ≤ w.heap.size; omega) (.int .i64 0) (p := ⟨w.heap.size, 1, none⟩)).setCell (by show w.heap.size ≤ w.heap.size; omega) (.int .i64 0) (p := ⟨w.heap.size, 2, none⟩)).setCell (by show w.heap.size ≤ w.heap.size; omega) (.int .i64 0) (p := ⟨w.heap.size, 3, none⟩)).setCell (by show w.heap.size ≤ w.heap.size; omega) (.int .i64 0) (p := ⟨w.heap.size, 4, none⟩))
    replace hV := (((((hV.far' (p := ⟨w.heap.size, 0, none⟩) (by show _ ≠ w.heap.size; omega) (.string ⟨#[]⟩)).far' (p := ⟨w.heap.size, 1, none⟩) (by show _ ≠ w.heap.size; omega) (.int .i64 0)).far' (p := ⟨w.heap.size, 2, none⟩) (by show _ ≠ w.heap.size; omega) (.int .i64 0)).far' (p := ⟨w.heap.size, 3, none⟩) (by show _ ≠ w.heap.size; omega) (.int .i64 0)).far' (p := ⟨w.heap.size, 4, none⟩) (by show _ ≠ w.heap.size; omega) (.int .i64 0))
    replace hZ : Blk (World.setCell (World.setCell (World.setCell (World.setCell (World.setCell w10 ⟨w.heap.size, 0, none⟩ (.string ⟨#[]⟩)) ⟨w.heap.size, 1, none⟩ (.int .i64 0)) ⟨w.heap.size, 2, none⟩ (.int .i64 0)) ⟨w.heap.size, 3, none⟩ (.int .i64 0)) ⟨w.heap.size, 4, none⟩ (.int .i64 0)) (w.heap.size) 27 #[.string ⟨#[]⟩, .int .i64 0, .int .i64 0, .int .i64 0, .int .i64 0] := (((((hZ.set_ 0 (.string ⟨#[]⟩)).set_ 1 (.int .i64 0)).set_ 2 (.int .i64 0)).set_ 3 (.int .i64 0)).set_ 4 (.int .i64 0))
    replace hGG := (((((hGG.far' (p := ⟨w.heap.size, 0, none⟩) (by show _ ≠ w.heap.size; omega) (.string ⟨#[]⟩)).far' (p := ⟨w.heap.size, 1, none⟩) (by show _ ≠ w.heap.size; omega) (.int .i64 0)).far' (p := ⟨w.heap.size, 2, none⟩) (by show _ ≠ w.heap.size; omega) (.int .i64 0)).far' (p := ⟨w.heap.size, 3, none⟩) (by show _ ≠ w.heap.size; omega) (.int .i64 0)).far' (p := ⟨w.heap.size, 4, none⟩) (by show _ ≠ w.heap.size; omega) (.int .i64 0))
    have szW9 : ((World.setCell (World.setCell (World.setCell (World.setCell (World.setCell w10 ⟨w.heap.size, 0, none⟩ (.string ⟨#[]⟩)) ⟨w.heap.size, 1, none⟩ (.int .i64 0)) ⟨w.heap.size, 2, none⟩ (.int .i64 0)) ⟨w.heap.size, 3, none⟩ (.int .i64 0)) ⟨w.heap.size, 4, none⟩ (.int .i64 0))).heap.size = w10.heap.size := by simp [World.setCell]
    generalize World.setCell (World.setCell (World.setCell (World.setCell (World.setCell w10 ⟨w.heap.size, 0, none⟩ (.string ⟨#[]⟩)) ⟨w.heap.size, 1, none⟩ (.int .i64 0)) ⟨w.heap.size, 2, none⟩ (.int .i64 0)) ⟨w.heap.size, 3, none⟩ (.int .i64 0)) ⟨w.heap.size, 4, none⟩ (.int .i64 0) = W9 at *
    have v0 := (hV.cell 0).trans (show _ = some (.int .i64 y) from rfl)
    have v1 := (hV.cell 1).trans (show _ = some (.int .i64 n) from rfl)
    have v2 := (hV.cell 2).trans (show _ = some (.int .i64 a) from rfl)
    have z0 := (hZ.cell 0).trans (show _ = some (.string ⟨#[]⟩) from rfl)
    have z1 := (hZ.cell 1).trans (show _ = some (.int .i64 0) from rfl)
    have z2 := (hZ.cell 2).trans (show _ = some (.int .i64 0) from rfl)
    have z3 := (hZ.cell 3).trans (show _ = some (.int .i64 0) from rfl)
    have z4 := (hZ.cell 4).trans (show _ = some (.int .i64 0) from rfl)
    have g0 := (hGG.cell 0).trans (show _ = some (.string m1) from rfl)
    have g1 := (hGG.cell 1).trans (show _ = some (.int .i64 nd) from rfl)
    have g2 := (hGG.cell 2).trans (show _ = some (.int .i64 y) from rfl)
    have g3 := (hGG.cell 3).trans (show _ = some (.int .i64 n) from rfl)
    have g4 := (hGG.cell 4).trans (show _ = some (.int .i64 a) from rfl)
    refine bodyPost_ret (v := .tuple #[.agg #[.string ⟨#[]⟩, .int .i64 0, .int .i64 0, .int .i64 0, .int .i64 0], .bool false]) (by simp [results, Tryz.results9, go_sem, z0, z1, z2, z3, z4]) rfl ?_
    exact ⟨by rw [poO_no HNO.out]; rfl, HB⟩
  have HV := Lib.hid hv; clear hv
  by_cases he : (⟨m1, nd, y, n, a, hms⟩ : Res).line = s
  case neg =>
    have HNO : Hid (¬ ∃ r, isR s r) := Lib.hid (fun ⟨r, h⟩ => by
      obtain ⟨e1, e2, e3, e4, e5, _⟩ := HF.out r h
      have h1 := h.2
      obtain ⟨rm, rn, ry, ro, ra, rs⟩ := r
      simp only at e1 e2 e3 e4 e5
      subst e1 e2 e3 e4 e5
      exact he h1)
    have hcmp := bytes_differ he
    go_wp2_with fail
    refine (isResult_is m1 nd y n a hms _ HV.out _).mono ?_
    rintro e w10 ⟨rfl, hb10⟩
    have hq10 : Below W3.heap.size W3 w10 := bth (by repeat (first | exact Below.refl _ _ | refine Below.alloc ?_ (by first | exact Nat.le_refl _ | (simp <;> omega)) _ | refine Below.setCell ?_ (by first | exact Nat.le_refl _ | (simp <;> omega)) _)) hb10
    replace HB := bth HB hq10
    replace hV := hV.below hq10 hV.lt
    replace v0 := (hV.cell 0).trans (show _ = some (.int .i64 y) from rfl)
    replace v1 := (hV.cell 1).trans (show _ = some (.int .i64 n) from rfl)
    replace v2 := (hV.cell 2).trans (show _ = some (.int .i64 a) from rfl)
    replace hZ := hZ.below hq10 hZ.lt
    replace z0 := (hZ.cell 0).trans (show _ = some (.string ⟨#[]⟩) from rfl)
    replace z1 := (hZ.cell 1).trans (show _ = some (.int .i64 0) from rfl)
    replace z2 := (hZ.cell 2).trans (show _ = some (.int .i64 0) from rfl)
    replace z3 := (hZ.cell 3).trans (show _ = some (.int .i64 0) from rfl)
    replace z4 := (hZ.cell 4).trans (show _ = some (.int .i64 0) from rfl)
    replace hGG := hGG.below hq10 hGG.lt
    replace g0 := (hGG.cell 0).trans (show _ = some (.string m1) from rfl)
    replace g1 := (hGG.cell 1).trans (show _ = some (.int .i64 nd) from rfl)
    replace g2 := (hGG.cell 2).trans (show _ = some (.int .i64 y) from rfl)
    replace g3 := (hGG.cell 3).trans (show _ = some (.int .i64 n) from rfl)
    replace g4 := (hGG.cell 4).trans (show _ = some (.int .i64 a) from rfl)
    go_wp2_with fail
    refine (outcomeLine_is ⟨m1, nd, y, n, a, hms⟩ HV.out _ (HT0.out.below (bth HB (by repeat (first | exact Below.refl _ _ | refine Below.alloc ?_ (by first | exact Nat.le_refl _ | (simp <;> omega)) _ | refine Below.setCell ?_ (by first | exact Nat.le_refl _ | (simp <;> omega)) _)))) (Phz.phr (HP0.out.below (bth HB (by repeat (first | exact Below.refl _ _ | refine Below.alloc ?_ (by first | exact Nat.le_refl _ | (simp <;> omega)) _ | refine Below.setCell ?_ (by first | exact Nat.le_refl _ | (simp <;> omega)) _)))))).mono ?_
    rintro e w11 ⟨rfl, hb11⟩
    have hq11 : Below w10.heap.size w10 w11 := bth (by repeat (first | exact Below.refl _ _ | refine Below.alloc ?_ (by first | exact Nat.le_refl _ | (simp <;> omega)) _ | refine Below.setCell ?_ (by first | exact Nat.le_refl _ | (simp <;> omega)) _)) hb11
    replace HB := bth HB hq11
    replace hV := hV.below hq11 hV.lt
    replace v0 := (hV.cell 0).trans (show _ = some (.int .i64 y) from rfl)
    replace v1 := (hV.cell 1).trans (show _ = some (.int .i64 n) from rfl)
    replace v2 := (hV.cell 2).trans (show _ = some (.int .i64 a) from rfl)
    replace hZ := hZ.below hq11 hZ.lt
    replace z0 := (hZ.cell 0).trans (show _ = some (.string ⟨#[]⟩) from rfl)
    replace z1 := (hZ.cell 1).trans (show _ = some (.int .i64 0) from rfl)
    replace z2 := (hZ.cell 2).trans (show _ = some (.int .i64 0) from rfl)
    replace z3 := (hZ.cell 3).trans (show _ = some (.int .i64 0) from rfl)
    replace z4 := (hZ.cell 4).trans (show _ = some (.int .i64 0) from rfl)
    replace hGG := hGG.below hq11 hGG.lt
    replace g0 := (hGG.cell 0).trans (show _ = some (.string m1) from rfl)
    replace g1 := (hGG.cell 1).trans (show _ = some (.int .i64 nd) from rfl)
    replace g2 := (hGG.cell 2).trans (show _ = some (.int .i64 y) from rfl)
    replace g3 := (hGG.cell 3).trans (show _ = some (.int .i64 n) from rfl)
    replace g4 := (hGG.cell 4).trans (show _ = some (.int .i64 a) from rfl)
    have fhZ0 := hZ.frozen 0
    have fhZ1 := hZ.frozen 1
    have fhZ2 := hZ.frozen 2
    have fhZ3 := hZ.frozen 3
    have fhZ4 := hZ.frozen 4
    have yhV := hV.lt
    have yhZ := hZ.lt
    have yhGG := hGG.lt
    go_wp2
    clear v0 v1 v2 z0 z1 z2 z3 z4 g0 g1 g2 g3 g4
    replace HB : Below w.heap.size w (World.setCell (World.setCell (World.setCell (World.setCell (World.setCell w11 ⟨w.heap.size, 0, none⟩ (.string ⟨#[]⟩)) ⟨w.heap.size, 1, none⟩ (.int .i64 0)) ⟨w.heap.size, 2, none⟩ (.int .i64 0)) ⟨w.heap.size, 3, none⟩ (.int .i64 0)) ⟨w.heap.size, 4, none⟩ (.int .i64 0)) := (((((HB.setCell (by show w.heap.size ≤ w.heap.size; omega) (.string ⟨#[]⟩) (p := ⟨w.heap.size, 0, none⟩)).setCell (by show w.heap.size ≤ w.heap.size; omega) (.int .i64 0) (p := ⟨w.heap.size, 1, none⟩)).setCell (by show w.heap.size ≤ w.heap.size; omega) (.int .i64 0) (p := ⟨w.heap.size, 2, none⟩)).setCell (by show w.heap.size ≤ w.heap.size; omega) (.int .i64 0) (p := ⟨w.heap.size, 3, none⟩)).setCell (by show w.heap.size ≤ w.heap.size; omega) (.int .i64 0) (p := ⟨w.heap.size, 4, none⟩))
    replace hV := (((((hV.far' (p := ⟨w.heap.size, 0, none⟩) (by show _ ≠ w.heap.size; omega) (.string ⟨#[]⟩)).far' (p := ⟨w.heap.size, 1, none⟩) (by show _ ≠ w.heap.size; omega) (.int .i64 0)).far' (p := ⟨w.heap.size, 2, none⟩) (by show _ ≠ w.heap.size; omega) (.int .i64 0)).far' (p := ⟨w.heap.size, 3, none⟩) (by show _ ≠ w.heap.size; omega) (.int .i64 0)).far' (p := ⟨w.heap.size, 4, none⟩) (by show _ ≠ w.heap.size; omega) (.int .i64 0))
    replace hZ : Blk (World.setCell (World.setCell (World.setCell (World.setCell (World.setCell w11 ⟨w.heap.size, 0, none⟩ (.string ⟨#[]⟩)) ⟨w.heap.size, 1, none⟩ (.int .i64 0)) ⟨w.heap.size, 2, none⟩ (.int .i64 0)) ⟨w.heap.size, 3, none⟩ (.int .i64 0)) ⟨w.heap.size, 4, none⟩ (.int .i64 0)) (w.heap.size) 27 #[.string ⟨#[]⟩, .int .i64 0, .int .i64 0, .int .i64 0, .int .i64 0] := (((((hZ.set_ 0 (.string ⟨#[]⟩)).set_ 1 (.int .i64 0)).set_ 2 (.int .i64 0)).set_ 3 (.int .i64 0)).set_ 4 (.int .i64 0))
    replace hGG := (((((hGG.far' (p := ⟨w.heap.size, 0, none⟩) (by show _ ≠ w.heap.size; omega) (.string ⟨#[]⟩)).far' (p := ⟨w.heap.size, 1, none⟩) (by show _ ≠ w.heap.size; omega) (.int .i64 0)).far' (p := ⟨w.heap.size, 2, none⟩) (by show _ ≠ w.heap.size; omega) (.int .i64 0)).far' (p := ⟨w.heap.size, 3, none⟩) (by show _ ≠ w.heap.size; omega) (.int .i64 0)).far' (p := ⟨w.heap.size, 4, none⟩) (by show _ ≠ w.heap.size; omega) (.int .i64 0))
    have szW9 : ((World.setCell (World.setCell (World.setCell (World.setCell (World.setCell w11 ⟨w.heap.size, 0, none⟩ (.string ⟨#[]⟩)) ⟨w.heap.size, 1, none⟩ (.int .i64 0)) ⟨w.heap.size, 2, none⟩ (.int .i64 0)) ⟨w.heap.size, 3, none⟩ (.int .i64 0)) ⟨w.heap.size, 4, none⟩ (.int .i64 0))).heap.size = w11.heap.size := by simp [World.setCell]
    generalize World.setCell (World.setCell (World.setCell (World.setCell (World.setCell w11 ⟨w.heap.size, 0, none⟩ (.string ⟨#[]⟩)) ⟨w.heap.size, 1, none⟩ (.int .i64 0)) ⟨w.heap.size, 2, none⟩ (.int .i64 0)) ⟨w.heap.size, 3, none⟩ (.int .i64 0)) ⟨w.heap.size, 4, none⟩ (.int .i64 0) = W9 at *
    have v0 := (hV.cell 0).trans (show _ = some (.int .i64 y) from rfl)
    have v1 := (hV.cell 1).trans (show _ = some (.int .i64 n) from rfl)
    have v2 := (hV.cell 2).trans (show _ = some (.int .i64 a) from rfl)
    have z0 := (hZ.cell 0).trans (show _ = some (.string ⟨#[]⟩) from rfl)
    have z1 := (hZ.cell 1).trans (show _ = some (.int .i64 0) from rfl)
    have z2 := (hZ.cell 2).trans (show _ = some (.int .i64 0) from rfl)
    have z3 := (hZ.cell 3).trans (show _ = some (.int .i64 0) from rfl)
    have z4 := (hZ.cell 4).trans (show _ = some (.int .i64 0) from rfl)
    have g0 := (hGG.cell 0).trans (show _ = some (.string m1) from rfl)
    have g1 := (hGG.cell 1).trans (show _ = some (.int .i64 nd) from rfl)
    have g2 := (hGG.cell 2).trans (show _ = some (.int .i64 y) from rfl)
    have g3 := (hGG.cell 3).trans (show _ = some (.int .i64 n) from rfl)
    have g4 := (hGG.cell 4).trans (show _ = some (.int .i64 a) from rfl)
    refine bodyPost_ret (v := .tuple #[.agg #[.string ⟨#[]⟩, .int .i64 0, .int .i64 0, .int .i64 0, .int .i64 0], .bool false]) (by simp [results, Tryz.results9, go_sem, z0, z1, z2, z3, z4]) rfl ?_
    exact ⟨by rw [poO_no HNO.out]; rfl, HB⟩
  have hcmp : ((⟨m1, nd, y, n, a, hms⟩ : Res).line.toList == s.toList) = true := beq_iff_eq.2 (by rw [he])
  have HY : Hid (isR s ⟨m1, nd, y, n, a, hms⟩) := Lib.hid ⟨HV.out, he⟩
  clear he
  go_wp2_with fail
  refine (isResult_is m1 nd y n a hms _ HV.out _).mono ?_
  rintro e w10 ⟨rfl, hb10⟩
  have hq10 : Below W3.heap.size W3 w10 := bth (by repeat (first | exact Below.refl _ _ | refine Below.alloc ?_ (by first | exact Nat.le_refl _ | (simp <;> omega)) _ | refine Below.setCell ?_ (by first | exact Nat.le_refl _ | (simp <;> omega)) _)) hb10
  replace HB := bth HB hq10
  replace hV := hV.below hq10 hV.lt
  replace v0 := (hV.cell 0).trans (show _ = some (.int .i64 y) from rfl)
  replace v1 := (hV.cell 1).trans (show _ = some (.int .i64 n) from rfl)
  replace v2 := (hV.cell 2).trans (show _ = some (.int .i64 a) from rfl)
  replace hZ := hZ.below hq10 hZ.lt
  replace z0 := (hZ.cell 0).trans (show _ = some (.string ⟨#[]⟩) from rfl)
  replace z1 := (hZ.cell 1).trans (show _ = some (.int .i64 0) from rfl)
  replace z2 := (hZ.cell 2).trans (show _ = some (.int .i64 0) from rfl)
  replace z3 := (hZ.cell 3).trans (show _ = some (.int .i64 0) from rfl)
  replace z4 := (hZ.cell 4).trans (show _ = some (.int .i64 0) from rfl)
  replace hGG := hGG.below hq10 hGG.lt
  replace g0 := (hGG.cell 0).trans (show _ = some (.string m1) from rfl)
  replace g1 := (hGG.cell 1).trans (show _ = some (.int .i64 nd) from rfl)
  replace g2 := (hGG.cell 2).trans (show _ = some (.int .i64 y) from rfl)
  replace g3 := (hGG.cell 3).trans (show _ = some (.int .i64 n) from rfl)
  replace g4 := (hGG.cell 4).trans (show _ = some (.int .i64 a) from rfl)
  go_wp2_with fail
  refine (outcomeLine_is ⟨m1, nd, y, n, a, hms⟩ HV.out _ (HT0.out.below (bth HB (by repeat (first | exact Below.refl _ _ | refine Below.alloc ?_ (by first | exact Nat.le_refl _ | (simp <;> omega)) _ | refine Below.setCell ?_ (by first | exact Nat.le_refl _ | (simp <;> omega)) _)))) (Phz.phr (HP0.out.below (bth HB (by repeat (first | exact Below.refl _ _ | refine Below.alloc ?_ (by first | exact Nat.le_refl _ | (simp <;> omega)) _ | refine Below.setCell ?_ (by first | exact Nat.le_refl _ | (simp <;> omega)) _)))))).mono ?_
  rintro e w11 ⟨rfl, hb11⟩
  have hq11 : Below w10.heap.size w10 w11 := bth (by repeat (first | exact Below.refl _ _ | refine Below.alloc ?_ (by first | exact Nat.le_refl _ | (simp <;> omega)) _ | refine Below.setCell ?_ (by first | exact Nat.le_refl _ | (simp <;> omega)) _)) hb11
  replace HB := bth HB hq11
  replace hV := hV.below hq11 hV.lt
  replace v0 := (hV.cell 0).trans (show _ = some (.int .i64 y) from rfl)
  replace v1 := (hV.cell 1).trans (show _ = some (.int .i64 n) from rfl)
  replace v2 := (hV.cell 2).trans (show _ = some (.int .i64 a) from rfl)
  replace hZ := hZ.below hq11 hZ.lt
  replace z0 := (hZ.cell 0).trans (show _ = some (.string ⟨#[]⟩) from rfl)
  replace z1 := (hZ.cell 1).trans (show _ = some (.int .i64 0) from rfl)
  replace z2 := (hZ.cell 2).trans (show _ = some (.int .i64 0) from rfl)
  replace z3 := (hZ.cell 3).trans (show _ = some (.int .i64 0) from rfl)
  replace z4 := (hZ.cell 4).trans (show _ = some (.int .i64 0) from rfl)
  replace hGG := hGG.below hq11 hGG.lt
  replace g0 := (hGG.cell 0).trans (show _ = some (.string m1) from rfl)
  replace g1 := (hGG.cell 1).trans (show _ = some (.int .i64 nd) from rfl)
  replace g2 := (hGG.cell 2).trans (show _ = some (.int .i64 y) from rfl)
  replace g3 := (hGG.cell 3).trans (show _ = some (.int .i64 n) from rfl)
  replace g4 := (hGG.cell 4).trans (show _ = some (.int .i64 a) from rfl)
  have fhZ0 := hZ.frozen 0
  have fhZ1 := hZ.frozen 1
  have fhZ2 := hZ.frozen 2
  have fhZ3 := hZ.frozen 3
  have fhZ4 := hZ.frozen 4
  have yhV := hV.lt
  have yhZ := hZ.lt
  have yhGG := hGG.lt
  go_wp2
  clear v0 v1 v2 z0 z1 z2 z3 z4 g0 g1 g2 g3 g4
  replace HB : Below w.heap.size w (World.setCell (World.setCell (World.setCell (World.setCell (World.setCell w11 ⟨w.heap.size, 0, none⟩ (.string m1)) ⟨w.heap.size, 1, none⟩ (.int .i64 nd)) ⟨w.heap.size, 2, none⟩ (.int .i64 y)) ⟨w.heap.size, 3, none⟩ (.int .i64 n)) ⟨w.heap.size, 4, none⟩ (.int .i64 a)) := (((((HB.setCell (by show w.heap.size ≤ w.heap.size; omega) (.string m1) (p := ⟨w.heap.size, 0, none⟩)).setCell (by show w.heap.size ≤ w.heap.size; omega) (.int .i64 nd) (p := ⟨w.heap.size, 1, none⟩)).setCell (by show w.heap.size ≤ w.heap.size; omega) (.int .i64 y) (p := ⟨w.heap.size, 2, none⟩)).setCell (by show w.heap.size ≤ w.heap.size; omega) (.int .i64 n) (p := ⟨w.heap.size, 3, none⟩)).setCell (by show w.heap.size ≤ w.heap.size; omega) (.int .i64 a) (p := ⟨w.heap.size, 4, none⟩))
  replace hV := (((((hV.far' (p := ⟨w.heap.size, 0, none⟩) (by show _ ≠ w.heap.size; omega) (.string m1)).far' (p := ⟨w.heap.size, 1, none⟩) (by show _ ≠ w.heap.size; omega) (.int .i64 nd)).far' (p := ⟨w.heap.size, 2, none⟩) (by show _ ≠ w.heap.size; omega) (.int .i64 y)).far' (p := ⟨w.heap.size, 3, none⟩) (by show _ ≠ w.heap.size; omega) (.int .i64 n)).far' (p := ⟨w.heap.size, 4, none⟩) (by show _ ≠ w.heap.size; omega) (.int .i64 a))
  replace hZ : Blk (World.setCell (World.setCell (World.setCell (World.setCell (World.setCell w11 ⟨w.heap.size, 0, none⟩ (.string m1)) ⟨w.heap.size, 1, none⟩ (.int .i64 nd)) ⟨w.heap.size, 2, none⟩ (.int .i64 y)) ⟨w.heap.size, 3, none⟩ (.int .i64 n)) ⟨w.heap.size, 4, none⟩ (.int .i64 a)) (w.heap.size) 27 #[.string m1, .int .i64 nd, .int .i64 y, .int .i64 n, .int .i64 a] := (((((hZ.set_ 0 (.string m1)).set_ 1 (.int .i64 nd)).set_ 2 (.int .i64 y)).set_ 3 (.int .i64 n)).set_ 4 (.int .i64 a))
  replace hGG := (((((hGG.far' (p := ⟨w.heap.size, 0, none⟩) (by show _ ≠ w.heap.size; omega) (.string m1)).far' (p := ⟨w.heap.size, 1, none⟩) (by show _ ≠ w.heap.size; omega) (.int .i64 nd)).far' (p := ⟨w.heap.size, 2, none⟩) (by show _ ≠ w.heap.size; omega) (.int .i64 y)).far' (p := ⟨w.heap.size, 3, none⟩) (by show _ ≠ w.heap.size; omega) (.int .i64 n)).far' (p := ⟨w.heap.size, 4, none⟩) (by show _ ≠ w.heap.size; omega) (.int .i64 a))
  have szW9 : ((World.setCell (World.setCell (World.setCell (World.setCell (World.setCell w11 ⟨w.heap.size, 0, none⟩ (.string m1)) ⟨w.heap.size, 1, none⟩ (.int .i64 nd)) ⟨w.heap.size, 2, none⟩ (.int .i64 y)) ⟨w.heap.size, 3, none⟩ (.int .i64 n)) ⟨w.heap.size, 4, none⟩ (.int .i64 a))).heap.size = w11.heap.size := by simp [World.setCell]
  generalize World.setCell (World.setCell (World.setCell (World.setCell (World.setCell w11 ⟨w.heap.size, 0, none⟩ (.string m1)) ⟨w.heap.size, 1, none⟩ (.int .i64 nd)) ⟨w.heap.size, 2, none⟩ (.int .i64 y)) ⟨w.heap.size, 3, none⟩ (.int .i64 n)) ⟨w.heap.size, 4, none⟩ (.int .i64 a) = W9 at *
  have v0 := (hV.cell 0).trans (show _ = some (.int .i64 y) from rfl)
  have v1 := (hV.cell 1).trans (show _ = some (.int .i64 n) from rfl)
  have v2 := (hV.cell 2).trans (show _ = some (.int .i64 a) from rfl)
  have z0 := (hZ.cell 0).trans (show _ = some (.string m1) from rfl)
  have z1 := (hZ.cell 1).trans (show _ = some (.int .i64 nd) from rfl)
  have z2 := (hZ.cell 2).trans (show _ = some (.int .i64 y) from rfl)
  have z3 := (hZ.cell 3).trans (show _ = some (.int .i64 n) from rfl)
  have z4 := (hZ.cell 4).trans (show _ = some (.int .i64 a) from rfl)
  have g0 := (hGG.cell 0).trans (show _ = some (.string m1) from rfl)
  have g1 := (hGG.cell 1).trans (show _ = some (.int .i64 nd) from rfl)
  have g2 := (hGG.cell 2).trans (show _ = some (.int .i64 y) from rfl)
  have g3 := (hGG.cell 3).trans (show _ = some (.int .i64 n) from rfl)
  have g4 := (hGG.cell 4).trans (show _ = some (.int .i64 a) from rfl)
  refine bodyPost_ret (v := .tuple #[.agg #[.string m1, .int .i64 nd, .int .i64 y, .int .i64 n, .int .i64 a], .bool true]) (by simp [results, Tryz.results9, go_sem, z0, z1, z2, z3, z4]) rfl ?_
  exact ⟨by rw [poO_yes HY.out]; rfl, HB⟩
end Go.Proofs.YtbnncgahepcfnaaGreatDoor
