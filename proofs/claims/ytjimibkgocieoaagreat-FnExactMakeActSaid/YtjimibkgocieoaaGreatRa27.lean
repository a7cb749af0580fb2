/- The law of MakeAct: the program's answer is the reference's, the meeting is left as it was, and the result is its own memory. -/
import Derived.Deep.RegionHeld3
import Derived.Test.YtjimibkgocieoaaGreatRa9
import Derived.Test.YtjimibkgocieoaaGreatRa3
import Derived.Test.YtjimibkgocieoaaGreatRa25
import Derived.Test.YtjimibkgocieoaaGreatRa24
import Derived.Test.YtjimibkgocieoaaGreatRa10
import Derived.Test.YtjimibkgocieoaaGreatRa0
import Derived.Test.YtjimibkgocieoaaGreatRa26
set_option maxHeartbeats 16000000
set_option maxRecDepth 100000
namespace Go.Proofs.YtjimibkgocieoaaGreat
open Go.RowKit Go.G9
theorem zb115 {p : Prop} (h : p := by
 rintro e wq ⟨F0, F1, F2, F3, F4, rfl, P0, P1, P2, P3, P4, _, hbq⟩
 go_wp2
 exact Nrm_mk ⟨(fiveA F0 F1 F2 F3 F4, fun _ => 0), rfl, hbq, ⟨P0, P1, P2, P3, P4⟩⟩) : p := h
theorem zb112 {p : Prop} (h : p := by
 change wpList _ _ _ (_ :: []) _ _
 go_wp2_with fail
 refine (toActA_is a kq.world).mono ?_
 rintro e wq ⟨rfl, hbq⟩
 go_wp2
 exact Nrm_mk ⟨(fun _ => none, fun _ => 0), rfl, hbq, trivial⟩) : p := h
theorem zb109 {p : Prop} (h : p := by
 rintro e wq ⟨F0, f0, F1, f1, F2, f2, F3, f3, F4, f4, rfl, P0, P1, P2, P3, P4, _, hbq⟩
 go_wp2
 exact Nrm_mk ⟨(fiveA F0 F1 F2 F3 F4, fiveN f0 f1 f2 f3 f4), rfl, hbq, ⟨P0, P1, P2, P3, P4⟩⟩) : p := h
theorem zb130 {p : Prop} (h : p := by
 change wpList _ _ _ (_ :: []) _ _
 go_wp2
 exact Nrm_mk ⟨(fun _ => none, fun _ => kq.world.heap.size), rfl, bl1 _ _, rfl, Blk.new _ _ _⟩) : p := h
theorem law_makeActL (m : Mee) (Am_0 Am_1 Am_2 Am_3 Am_4 : Option Addr) (cm_0 cm_1 cm_2 cm_3 cm_4 : Nat) (hm_0 : m.rules.length ≤ maxLen) (hm_1 : m.pend.length ≤ maxLen) (hm_2 : m.wait.length ≤ maxLen) (hm_3 : m.shares.length ≤ maxLen) (hm_4 : m.outs.length ≤ maxLen) (a : Ac) (w : World) (Rm_0 : Rds 7 Rul.cells w Am_0 m.rules) (Rm_1 : Rds 3 Que.cells w Am_1 m.pend) (Rm_2 : Rds 1 intC w Am_2 m.wait) (Rm_3 : Rds 3 Sha.cells w Am_3 m.shares) (Rm_4 : Rds 3 Out.cells w Am_4 m.outs) :
 Calls Tryz.prog 5 #[.agg #[.slice Am_0 m.rules.length cm_0, .slice Am_1 m.pend.length cm_1, .int .i64 m.turns, .int .i64 m.secs, .int .i64 m.spk, .slice Am_2 m.wait.length cm_2, .slice Am_3 m.shares.length cm_3, .slice Am_4 m.outs.length cm_4], .agg #[.int .i64 a.kind, .int .i64 a.mem, .int .i64 a.val, .int .i64 a.yes, .int .i64 a.no, .int .i64 a.abst]] w fun e w' => e = .returned (.bool true) ∧ Below w.heap.size w w' := by
 go_enter Tryz.func5, Tryz.ntmps5
 go_wp2_with fail
 refine (szMeeting_is m Am_0 Am_1 Am_2 Am_3 Am_4 cm_0 cm_1 cm_2 cm_3 cm_4 hm_0 hm_1 hm_2 hm_3 hm_4 1048576 (by omega) (by omega) _ (Rm_0.below bel)).mono ?_
 rintro e w1 ⟨r0, rfl, hr0, hs0, hl0, hb1⟩
 have hq1 : Below w.heap.size w w1 := bth bel hb1; have HB : Below w.heap.size w w1 := hq1; have X1 : Blk w1 (w.heap.size) 77 #[.slice Am_0 m.rules.length cm_0, .slice Am_1 m.pend.length cm_1, .int .i64 m.turns, .int .i64 m.secs, .int .i64 m.spk, .slice Am_2 m.wait.length cm_2, .slice Am_3 m.shares.length cm_3, .slice Am_4 m.outs.length cm_4] := Blk.below (by repeat (first | exact Blk.new _ _ _ | exact Blk.new2 _ _ _ _ | exact Blk.new3 _ _ _ _ _ | refine Blk.alloc ?_ _)) hb1 (by simp <;> omega)
 have X2 : Blk w1 (w.heap.size + 1) 80 #[.int .i64 a.kind, .int .i64 a.mem, .int .i64 a.val, .int .i64 a.yes, .int .i64 a.no, .int .i64 a.abst] := Blk.below (by repeat (first | exact Blk.new _ _ _ | exact Blk.new2 _ _ _ _ | exact Blk.new3 _ _ _ _ _ | refine Blk.alloc ?_ _)) hb1 (by simp <;> omega); have yX2 := X2.lt
 obtain ⟨X1_0, X1_1, X1_2, X1_3, X1_4, X1_5, X1_6, X1_7⟩ := X1.cs8
 have X2_' := X2.cs6
 by_cases h00 : r0 < 0
 ·go_wp2
  go_ret
  exact ⟨rfl, bth HB bel⟩
 clear X1_0 X1_1 X1_2 X1_3 X1_4 X1_5 X1_6 X1_7; clear X2_'
 have hm_0' : m.rules.length ≤ 1048576 := by omega
 have hm_1' : m.pend.length ≤ 1048576 := by omega
 have hm_2' : m.wait.length ≤ 1048576 := by omega
 have hm_3' : m.shares.length ≤ 1048576 := by omega
 have hm_4' : m.outs.length ≤ 1048576 := by omega
 clear hl0
 go_wp2
 obtain ⟨CC1, hCC1⟩ : ∃ X : World → Prop, ∀ V, X V ↔ Below w1.heap.size w1 V := ⟨_, fun _ => Iff.rfl⟩
 have HCC1 := lh hCC1; clear hCC1
 haveI : Nonempty (Hld CC1) := ⟨⟨w1, (HCC1.out _).2 (Below.refl _ _)⟩⟩
 obtain ⟨X1_0, X1_1, X1_2, X1_3, X1_4, X1_5, X1_6, X1_7⟩ := Blk.cs8K (fun K : Hld CC1 => (X1.below ((HCC1.out _).1 K.holds) X1.lt))
 have X2_' := Blk.cs6K (fun K : Hld CC1 => (X2.below ((HCC1.out _).1 K.holds) X2.lt))
 refine wp_region_mky (mkaS 1 3 4 8 [1] m a ((oMee (actO m a))) ((actO m a).isSome)) CC1 [([0], 1), ([2], 3), ([], 4), ([], 8)] [5, 6, 7] [([], [], 9, false)] [] [10] (by kernel_rfl) (by kernel_rfl) ((HCC1.out _).2 (Below.refl _ _).drew) (fun W W' h k => (HCC1.out _).2 (bth ((HCC1.out _).1 h) k)) ?_
 intro σ
 refine wpMk1_cons (some 23) rfl (.agg #[.slice ((σ 1).1 0) m.rules.length m.rules.length, .slice ((σ 1).1 1) m.pend.length m.pend.length, .int .i64 m.turns, .int .i64 m.secs, .int .i64 m.spk, .slice ((σ 1).1 2) m.wait.length m.wait.length, .slice ((σ 1).1 3) m.shares.length m.shares.length, .slice ((σ 1).1 4) m.outs.length m.outs.length]) rfl fun K1 hK1 => ?_
 change wpQuiet _ _ _ _ (_ :: []) _
 repeat (go_big_quiet_step (fail))
 refine wpQuiet_nil ?_
 refine ⟨fun kq hpar => ?_, hK1 _ ?_⟩
 ·change wpList _ _ _ (_ :: []) _ _
  go_wp2_with fail
  refine (toMeeting_is m Am_0 Am_1 Am_2 Am_3 Am_4 cm_0 cm_1 cm_2 cm_3 cm_4 hm_0' hm_1' hm_2' hm_3' hm_4' kq.world (Rm_0.below (bth HB ((HCC1.out _).1 kq.holds))) (Rm_1.below (bth HB ((HCC1.out _).1 kq.holds))) (Rm_2.below (bth HB ((HCC1.out _).1 kq.holds))) (Rm_3.below (bth HB ((HCC1.out _).1 kq.holds))) (Rm_4.below (bth HB ((HCC1.out _).1 kq.holds)))).mono ?_
  exact zb115
 simp only [Act.put]
 go_simp
 refine wpMk1_cons (some 25) rfl (.agg #[.int .i64 a.kind, .int .i64 a.mem, .int .i64 a.val, .int .i64 a.yes, .int .i64 a.no, .int .i64 a.abst]) rfl fun K1 hK1 => ?_
 change wpQuiet _ _ _ _ (_ :: []) _
 repeat (go_big_quiet_step (fail))
 refine wpQuiet_nil ?_
 refine ⟨fun kq hpar => ?_, hK1 _ ?_⟩
 ·exact zb112
 simp only [Act.put]
 go_simp
 refine wpMk1_cons (some 26) rfl (.tuple #[.agg #[.slice ((σ 4).1 0) (oMee (actO m a)).rules.length ((σ 4).2 0), .slice ((σ 4).1 1) (oMee (actO m a)).pend.length ((σ 4).2 1), .int .i64 (oMee (actO m a)).turns, .int .i64 (oMee (actO m a)).secs, .int .i64 (oMee (actO m a)).spk, .slice ((σ 4).1 2) (oMee (actO m a)).wait.length ((σ 4).2 2), .slice ((σ 4).1 3) (oMee (actO m a)).shares.length ((σ 4).2 3), .slice ((σ 4).1 4) (oMee (actO m a)).outs.length ((σ 4).2 4)], .bool (actO m a).isSome]) rfl fun K1 hK1 => ?_
 change wpQuiet _ _ _ _ ([]) _
 refine wpQuiet_nil ?_
 refine ⟨fun kq hpar => ?_, hK1 _ ?_⟩
 ·change wpList _ _ _ (_ :: []) _ _
  obtain ⟨V0, V1, _, hp1, hv1⟩ := hpar 1 (by simp [mkaS])
  have q1 : MeO V0.heap.size V1 ((σ 1).1 0) m.rules.length ((σ 1).1 1) m.pend.length ((σ 1).1 2) m.wait.length ((σ 1).1 3) m.shares.length ((σ 1).1 4) m.outs.length m.rules m.pend m.wait m.shares m.outs := hp1; have q1w := q1.later hv1; clear hp1 q1
  go_wp2_with fail
  refine (sMakeAct_is m ((σ 1).1 0) ((σ 1).1 1) ((σ 1).1 2) ((σ 1).1 3) ((σ 1).1 4) m.rules.length m.pend.length m.wait.length m.shares.length m.outs.length hm_0' hm_1' hm_2' hm_3' hm_4' a kq.world q1w.o0.rds q1w.o1.rds q1w.o2.rds q1w.o3.rds q1w.o4.rds q1w.o0.nilOk q1w.o1.nilOk q1w.o2.nilOk q1w.o3.nilOk q1w.o4.nilOk (Nat.le_refl _) (Nat.le_refl _) (Nat.le_refl _) (Nat.le_refl _) (Nat.le_refl _) ).mono ?_
  exact zb109
 simp only [Act.put]
 go_simp
 refine wpMk1_cons (some 6) rfl (.pointer (some ⟨(σ 8).2 0, 0, none⟩)) rfl fun K1 hK1 => ?_
 change wpQuiet _ _ _ _ ([]) _
 refine wpQuiet_nil ?_
 refine ⟨fun kq hpar => ?_, hK1 _ ?_⟩
 ·exact zb130
 simp only [Act.put]
 go_simp
 refine wpMk1_last ?_
 change wpQuiet _ _ _ _ (_ :: _ :: _ :: []) _
 repeat (go_big_quiet_step (fail))
 refine wpQuiet_nil ?_
 intro V0 V WW hM hW
 obtain ⟨e8, q8⟩ : (σ 8).2 0 = (V0 8).heap.size ∧ Blk (V 8) (V0 8).heap.size 32 #[.slice none 0 0, .slice none 0 0, .int .i64 0, .int .i64 0, .int .i64 0, .slice none 0 0, .slice none 0 0, .slice none 0 0] := hM.post 8 (by simp)
 have q8W := q8.below (hM.later 8 (by simp)) q8.lt; have h80 := (hM.from0 8 (by simp)).size; have q4 : MeO (V0 4).heap.size (V 4) ((σ 4).1 0) ((σ 4).2 0) ((σ 4).1 1) ((σ 4).2 1) ((σ 4).1 2) ((σ 4).2 2) ((σ 4).1 3) ((σ 4).2 3) ((σ 4).1 4) ((σ 4).2 4) (oMee (actO m a)).rules (oMee (actO m a)).pend (oMee (actO m a)).wait (oMee (actO m a)).shares (oMee (actO m a)).outs := hM.post 4 (by simp); have q4W := (q4.later (hM.later 4 (by simp))).base (B' := w1.heap.size) (hM.from0 4 (by simp)).size
 have hqW : Below w1.heap.size w1 WW := (hM.whole 8 (by simp)).undrew; clear hM hW q8 q4
 rw [← e8] at q8W
 clear X1_0 X1_1 X1_2 X1_3 X1_4 X1_5 X1_6 X1_7 X2_'
 generalize hg8 : (σ 8).2 0 = y2 at *
 generalize (σ 4).1 0 = Aw0_0 at *
 generalize (σ 4).2 0 = cw0_0 at *
 generalize (σ 4).1 1 = Aw0_1 at *
 generalize (σ 4).2 1 = cw0_1 at *
 generalize (σ 4).1 2 = Aw0_2 at *
 generalize (σ 4).2 2 = cw0_2 at *
 generalize (σ 4).1 3 = Aw0_3 at *
 generalize (σ 4).2 3 = cw0_3 at *
 generalize (σ 4).1 4 = Aw0_4 at *
 generalize (σ 4).2 4 = cw0_4 at *
 generalize (σ 1).1 0 = J2_0 at *
 generalize (σ 1).1 1 = J2_1 at *
 generalize (σ 1).1 2 = J2_2 at *
 generalize (σ 1).1 3 = J2_3 at *
 generalize (σ 1).1 4 = J2_4 at *
 have hy2 : w1.heap.size ≤ y2 := by rw [e8]; exact h80
 clear e8 h80 hg8; have ne2_0 : ∀ k, (Value.slice Aw0_0 (oMee (actO m a)).rules.length cw0_0).ownBlock = some k → ¬ k = y2 := q4W.o0.notBlkV q8W (by decide); have ne2_1 : ∀ k, (Value.slice Aw0_1 (oMee (actO m a)).pend.length cw0_1).ownBlock = some k → ¬ k = y2 := q4W.o1.notBlkV q8W (by decide); have ne2_2 : ∀ k, (Value.slice Aw0_2 (oMee (actO m a)).wait.length cw0_2).ownBlock = some k → ¬ k = y2 := q4W.o2.notBlkV q8W (by decide)
 have ne2_3 : ∀ k, (Value.slice Aw0_3 (oMee (actO m a)).shares.length cw0_3).ownBlock = some k → ¬ k = y2 := q4W.o3.notBlkV q8W (by decide); have ne2_4 : ∀ k, (Value.slice Aw0_4 (oMee (actO m a)).outs.length cw0_4).ownBlock = some k → ¬ k = y2 := q4W.o4.notBlkV q8W (by decide)
 refine wpMx_cons fun K2 hK2 => ?_
 refine wpQuiet_nil ?_
 refine wpQuiet_nil ?_
 change wpList _ _ _ (_ :: []) _ _
 have fz' := q8W.fz8; have g8_' := q8W.cs8
 go_wp2
 have gR2 : World.grownBy WW (World.setCell (World.setCell (World.setCell (World.setCell (World.setCell (World.setCell (World.setCell (World.setCell WW ⟨y2, 0, none⟩ (.slice Aw0_0 (oMee (actO m a)).rules.length cw0_0)) ⟨y2, 1, none⟩ (.slice Aw0_1 (oMee (actO m a)).pend.length cw0_1)) ⟨y2, 2, none⟩ (.int .i64 (oMee (actO m a)).turns)) ⟨y2, 3, none⟩ (.int .i64 (oMee (actO m a)).secs)) ⟨y2, 4, none⟩ (.int .i64 (oMee (actO m a)).spk)) ⟨y2, 5, none⟩ (.slice Aw0_2 (oMee (actO m a)).wait.length cw0_2)) ⟨y2, 6, none⟩ (.slice Aw0_3 (oMee (actO m a)).shares.length cw0_3)) ⟨y2, 7, none⟩ (.slice Aw0_4 (oMee (actO m a)).outs.length cw0_4)) (some y2) := (grown_set (j := 7) (grown_set (j := 6) (grown_set (j := 5) (grown_set (j := 4) (grown_set (j := 3) (grown_set (j := 2) (grown_set (j := 1) (grown_set (j := 0) (grown_refl WW (some y2)) (.slice Aw0_0 (oMee (actO m a)).rules.length cw0_0)) (.slice Aw0_1 (oMee (actO m a)).pend.length cw0_1)) (.int .i64 (oMee (actO m a)).turns)) (.int .i64 (oMee (actO m a)).secs)) (.int .i64 (oMee (actO m a)).spk)) (.slice Aw0_2 (oMee (actO m a)).wait.length cw0_2)) (.slice Aw0_3 (oMee (actO m a)).shares.length cw0_3)) (.slice Aw0_4 (oMee (actO m a)).outs.length cw0_4))
 have X3 : Blk (World.setCell (World.setCell (World.setCell (World.setCell (World.setCell (World.setCell (World.setCell (World.setCell WW ⟨y2, 0, none⟩ (.slice Aw0_0 (oMee (actO m a)).rules.length cw0_0)) ⟨y2, 1, none⟩ (.slice Aw0_1 (oMee (actO m a)).pend.length cw0_1)) ⟨y2, 2, none⟩ (.int .i64 (oMee (actO m a)).turns)) ⟨y2, 3, none⟩ (.int .i64 (oMee (actO m a)).secs)) ⟨y2, 4, none⟩ (.int .i64 (oMee (actO m a)).spk)) ⟨y2, 5, none⟩ (.slice Aw0_2 (oMee (actO m a)).wait.length cw0_2)) ⟨y2, 6, none⟩ (.slice Aw0_3 (oMee (actO m a)).shares.length cw0_3)) ⟨y2, 7, none⟩ (.slice Aw0_4 (oMee (actO m a)).outs.length cw0_4)) y2 32 #[.slice Aw0_0 (oMee (actO m a)).rules.length cw0_0, .slice Aw0_1 (oMee (actO m a)).pend.length cw0_1, .int .i64 (oMee (actO m a)).turns, .int .i64 (oMee (actO m a)).secs, .int .i64 (oMee (actO m a)).spk, .slice Aw0_2 (oMee (actO m a)).wait.length cw0_2, .slice Aw0_3 (oMee (actO m a)).shares.length cw0_3, .slice Aw0_4 (oMee (actO m a)).outs.length cw0_4] := ((((((((q8W.set_ 0 (.slice Aw0_0 (oMee (actO m a)).rules.length cw0_0)).set_ 1 (.slice Aw0_1 (oMee (actO m a)).pend.length cw0_1)).set_ 2 (.int .i64 (oMee (actO m a)).turns)).set_ 3 (.int .i64 (oMee (actO m a)).secs)).set_ 4 (.int .i64 (oMee (actO m a)).spk)).set_ 5 (.slice Aw0_2 (oMee (actO m a)).wait.length cw0_2)).set_ 6 (.slice Aw0_3 (oMee (actO m a)).shares.length cw0_3)).set_ 7 (.slice Aw0_4 (oMee (actO m a)).outs.length cw0_4))
 generalize World.setCell (World.setCell (World.setCell (World.setCell (World.setCell (World.setCell (World.setCell (World.setCell WW ⟨y2, 0, none⟩ (.slice Aw0_0 (oMee (actO m a)).rules.length cw0_0)) ⟨y2, 1, none⟩ (.slice Aw0_1 (oMee (actO m a)).pend.length cw0_1)) ⟨y2, 2, none⟩ (.int .i64 (oMee (actO m a)).turns)) ⟨y2, 3, none⟩ (.int .i64 (oMee (actO m a)).secs)) ⟨y2, 4, none⟩ (.int .i64 (oMee (actO m a)).spk)) ⟨y2, 5, none⟩ (.slice Aw0_2 (oMee (actO m a)).wait.length cw0_2)) ⟨y2, 6, none⟩ (.slice Aw0_3 (oMee (actO m a)).shares.length cw0_3)) ⟨y2, 7, none⟩ (.slice Aw0_4 (oMee (actO m a)).outs.length cw0_4) = w2 at *
 have hq2 : Below w1.heap.size w1 w2 := hqW.grown gR2 hqW.size (fun q hq => by rw [← Option.some.inj hq]; exact hy2); have Ow0_0 := q4W.o0.kept gR2 (fun k hk e => ne2_0 k hk (Option.some.inj e)); have Ow0_1 := q4W.o1.kept gR2 (fun k hk e => ne2_1 k hk (Option.some.inj e)); have Ow0_2 := q4W.o2.kept gR2 (fun k hk e => ne2_2 k hk (Option.some.inj e)); have Ow0_3 := q4W.o3.kept gR2 (fun k hk e => ne2_3 k hk (Option.some.inj e))
 have Ow0_4 := q4W.o4.kept gR2 (fun k hk e => ne2_4 k hk (Option.some.inj e)); clear q4W q8W hqW gR2 fz' g8_' ne2_0 ne2_1 ne2_2 ne2_3 ne2_4
 refine Nrm_keep ((HCC1.out _).2 hq2) (hK2 _ _ ?_)
 refine wpMx_last ?_
 refine wpQuiet_nil ?_
 change wpQuiet _ _ _ _ (_ :: []) _
 haveI : Nonempty (Hld (fun _ => True)) := ⟨⟨w2, trivial⟩⟩
 repeat (go_big_quiet_step (fail))
 refine wpQuiet_nil ?_
 clear HCC1; have z2 := hq2.size; replace HB := bth HB hq2; replace X1 := X1.to hq2; replace X2 := X2.to hq2
 have inw0 : Within [.slice Aw0_0 (oMee (actO m a)).rules.length cw0_0, .slice Aw0_1 (oMee (actO m a)).pend.length cw0_1, .slice Aw0_2 (oMee (actO m a)).wait.length cw0_2, .slice Aw0_3 (oMee (actO m a)).shares.length cw0_3, .slice Aw0_4 (oMee (actO m a)).outs.length cw0_4] (w1.heap.size) (w2.heap.size) := by
  exact zb53
 have yX3 := X3.lt
 obtain ⟨X1_0, X1_1, X1_2, X1_3, X1_4, X1_5, X1_6, X1_7⟩ := X1.cs8
 have X2_' := X2.cs6; have X3_' := X3.cs8
 go_wp2_with fail
 refine (toMeeting_is m Am_0 Am_1 Am_2 Am_3 Am_4 cm_0 cm_1 cm_2 cm_3 cm_4 hm_0' hm_1' hm_2' hm_3' hm_4' _ (Rm_0.below (bth HB bel)) (Rm_1.below (bth HB bel)) (Rm_2.below (bth HB bel)) (Rm_3.below (bth HB bel)) (Rm_4.below (bth HB bel))).mono ?_
 rintro e w3 ⟨Ax0_0, Ax0_1, Ax0_2, Ax0_3, Ax0_4, rfl, Ox0_0, Ox0_1, Ox0_2, Ox0_3, Ox0_4, apx0, hb3⟩
 clear X1_0 X1_1 X1_2 X1_3 X1_4 X1_5 X1_6 X1_7; clear X2_'; clear X3_'; have hq3 : Below w2.heap.size w2 w3 := bth bel hb3; have z3 := hq3.size; replace HB := bth HB hq3; replace Ow0_0 := Ow0_0.later hq3; replace Ow0_1 := Ow0_1.later hq3; replace Ow0_2 := Ow0_2.later hq3; replace Ow0_3 := Ow0_3.later hq3; replace Ow0_4 := Ow0_4.later hq3; replace X1 := X1.to hq3; replace X2 := X2.to hq3; replace X3 := X3.to hq3
 have inx0 : Within [.slice Ax0_0 m.rules.length m.rules.length, .slice Ax0_1 m.pend.length m.pend.length, .slice Ax0_2 m.wait.length m.wait.length, .slice Ax0_3 m.shares.length m.shares.length, .slice Ax0_4 m.outs.length m.outs.length] (w2.heap.size) (w3.heap.size) := by
  exact zb54
 go_wp2
 refine lay1 fun w4 hq4 X4 => ?_
 replace HB := bth HB hq4; replace Ow0_0 := Ow0_0.later hq4; replace Ow0_1 := Ow0_1.later hq4; replace Ow0_2 := Ow0_2.later hq4; replace Ow0_3 := Ow0_3.later hq4; replace Ow0_4 := Ow0_4.later hq4; replace Ox0_0 := Ox0_0.later hq4; replace Ox0_1 := Ox0_1.later hq4; replace Ox0_2 := Ox0_2.later hq4; replace Ox0_3 := Ox0_3.later hq4; replace Ox0_4 := Ox0_4.later hq4; replace X1 := X1.to hq4; replace X2 := X2.to hq4
 replace X3 := X3.to hq4; have yX4 := X4.lt
 obtain ⟨CC4, hCC4⟩ : ∃ X : World → Prop, ∀ V, X V ↔ Below w4.heap.size w4 V := ⟨_, fun _ => Iff.rfl⟩
 have HCC4 := lh hCC4; clear hCC4
 haveI : Nonempty (Hld CC4) := ⟨⟨w4, (HCC4.out _).2 (Below.refl _ _)⟩⟩
 obtain ⟨X4_0, X4_1, X4_2, X4_3, X4_4, X4_5, X4_6, X4_7⟩ := Blk.cs8K (fun K : Hld CC4 => (X4.below ((HCC4.out _).1 K.holds) X4.lt))
 have X2_' := Blk.cs6K (fun K : Hld CC4 => (X2.below ((HCC4.out _).1 K.holds) X2.lt))
 refine wp_region_mky (mkaS 99 2 3 7 [] m a ((oMee (actO m a))) ((actO m a).isSome)) CC4 [([0, 1], 2), ([], 3), ([], 7)] [4, 5, 6] [([], [], 8, false)] [] [9] (by kernel_rfl) (by kernel_rfl) ((HCC4.out _).2 (Below.refl _ _).drew) (fun W W' h k => (HCC4.out _).2 (bth ((HCC4.out _).1 h) k)) ?_
 intro σ
 refine wpMk1_cons (some 34) rfl (.agg #[.int .i64 a.kind, .int .i64 a.mem, .int .i64 a.val, .int .i64 a.yes, .int .i64 a.no, .int .i64 a.abst]) rfl fun K1 hK1 => ?_
 change wpQuiet _ _ _ _ (_ :: _ :: []) _
 repeat (go_big_quiet_step (fail))
 refine wpQuiet_nil ?_
 refine ⟨fun kq hpar => ?_, hK1 _ ?_⟩
 ·exact zb112
 simp only [Act.put]
 go_simp
 refine wpMk1_cons (some 35) rfl (.tuple #[.agg #[.slice ((σ 3).1 0) (oMee (actO m a)).rules.length ((σ 3).2 0), .slice ((σ 3).1 1) (oMee (actO m a)).pend.length ((σ 3).2 1), .int .i64 (oMee (actO m a)).turns, .int .i64 (oMee (actO m a)).secs, .int .i64 (oMee (actO m a)).spk, .slice ((σ 3).1 2) (oMee (actO m a)).wait.length ((σ 3).2 2), .slice ((σ 3).1 3) (oMee (actO m a)).shares.length ((σ 3).2 3), .slice ((σ 3).1 4) (oMee (actO m a)).outs.length ((σ 3).2 4)], .bool (actO m a).isSome]) rfl fun K1 hK1 => ?_
 change wpQuiet _ _ _ _ ([]) _
 refine wpQuiet_nil ?_
 refine ⟨fun kq hpar => ?_, hK1 _ ?_⟩
 ·change wpList _ _ _ (_ :: []) _ _
  go_wp2_with fail
  refine (iMakeAct_is m Ax0_0 Ax0_1 Ax0_2 Ax0_3 Ax0_4 m.rules.length m.pend.length m.wait.length m.shares.length m.outs.length hm_0' hm_1' hm_2' hm_3' hm_4' a kq.world (Ox0_0.rds.below ((HCC4.out _).1 kq.holds)) (Ox0_1.rds.below ((HCC4.out _).1 kq.holds)) (Ox0_2.rds.below ((HCC4.out _).1 kq.holds)) (Ox0_3.rds.below ((HCC4.out _).1 kq.holds)) (Ox0_4.rds.below ((HCC4.out _).1 kq.holds)) Ox0_0.nilOk Ox0_1.nilOk Ox0_2.nilOk Ox0_3.nilOk Ox0_4.nilOk (Nat.le_refl _) (Nat.le_refl _) (Nat.le_refl _) (Nat.le_refl _) (Nat.le_refl _) ).mono ?_
  exact zb109
 simp only [Act.put]
 go_simp
 refine wpMk1_cons (some 9) rfl (.pointer (some ⟨(σ 7).2 0, 0, none⟩)) rfl fun K1 hK1 => ?_
 change wpQuiet _ _ _ _ ([]) _
 refine wpQuiet_nil ?_
 refine ⟨fun kq hpar => ?_, hK1 _ ?_⟩
 ·exact zb130
 simp only [Act.put]
 go_simp
 refine wpMk1_last ?_
 change wpQuiet _ _ _ _ (_ :: _ :: _ :: []) _
 repeat (go_big_quiet_step (fail))
 refine wpQuiet_nil ?_
 intro V0 V WW hM hW
 obtain ⟨e8, q8⟩ : (σ 7).2 0 = (V0 7).heap.size ∧ Blk (V 7) (V0 7).heap.size 32 #[.slice none 0 0, .slice none 0 0, .int .i64 0, .int .i64 0, .int .i64 0, .slice none 0 0, .slice none 0 0, .slice none 0 0] := hM.post 7 (by simp)
 have q8W := q8.below (hM.later 7 (by simp)) q8.lt; have h80 := (hM.from0 7 (by simp)).size; have q4 : MeO (V0 3).heap.size (V 3) ((σ 3).1 0) ((σ 3).2 0) ((σ 3).1 1) ((σ 3).2 1) ((σ 3).1 2) ((σ 3).2 2) ((σ 3).1 3) ((σ 3).2 3) ((σ 3).1 4) ((σ 3).2 4) (oMee (actO m a)).rules (oMee (actO m a)).pend (oMee (actO m a)).wait (oMee (actO m a)).shares (oMee (actO m a)).outs := hM.post 3 (by simp); have q4W := (q4.later (hM.later 3 (by simp))).base (B' := w4.heap.size) (hM.from0 3 (by simp)).size
 have hqW : Below w4.heap.size w4 WW := (hM.whole 7 (by simp)).undrew; clear q8 q4
 rw [← e8] at q8W
 clear X4_0 X4_1 X4_2 X4_3 X4_4 X4_5 X4_6 X4_7 X2_'
 generalize hg8 : (σ 7).2 0 = y5 at *
 generalize (σ 3).1 0 = Ag0_0 at *
 generalize (σ 3).2 0 = cg0_0 at *
 generalize (σ 3).1 1 = Ag0_1 at *
 generalize (σ 3).2 1 = cg0_1 at *
 generalize (σ 3).1 2 = Ag0_2 at *
 generalize (σ 3).2 2 = cg0_2 at *
 generalize (σ 3).1 3 = Ag0_3 at *
 generalize (σ 3).2 3 = cg0_3 at *
 generalize (σ 3).1 4 = Ag0_4 at *
 generalize (σ 3).2 4 = cg0_4 at *
 have hy5 : w4.heap.size ≤ y5 := by rw [e8]; exact h80
 clear e8 h80; have ne5_0 : ∀ k, (Value.slice Ag0_0 (oMee (actO m a)).rules.length cg0_0).ownBlock = some k → ¬ k = y5 := q4W.o0.notBlkV q8W (by decide); have ne5_1 : ∀ k, (Value.slice Ag0_1 (oMee (actO m a)).pend.length cg0_1).ownBlock = some k → ¬ k = y5 := q4W.o1.notBlkV q8W (by decide); have ne5_2 : ∀ k, (Value.slice Ag0_2 (oMee (actO m a)).wait.length cg0_2).ownBlock = some k → ¬ k = y5 := q4W.o2.notBlkV q8W (by decide)
 have ne5_3 : ∀ k, (Value.slice Ag0_3 (oMee (actO m a)).shares.length cg0_3).ownBlock = some k → ¬ k = y5 := q4W.o3.notBlkV q8W (by decide); have ne5_4 : ∀ k, (Value.slice Ag0_4 (oMee (actO m a)).outs.length cg0_4).ownBlock = some k → ¬ k = y5 := q4W.o4.notBlkV q8W (by decide)
 refine wpMx_cons fun K2 hK2 => ?_
 refine wpQuiet_nil ?_
 refine wpQuiet_nil ?_
 change wpList _ _ _ (_ :: []) _ _
 have fz' := q8W.fz8; have g8_' := q8W.cs8
 go_wp2
 have gR5 : World.grownBy WW (World.setCell (World.setCell (World.setCell (World.setCell (World.setCell (World.setCell (World.setCell (World.setCell WW ⟨y5, 0, none⟩ (.slice Ag0_0 (oMee (actO m a)).rules.length cg0_0)) ⟨y5, 1, none⟩ (.slice Ag0_1 (oMee (actO m a)).pend.length cg0_1)) ⟨y5, 2, none⟩ (.int .i64 (oMee (actO m a)).turns)) ⟨y5, 3, none⟩ (.int .i64 (oMee (actO m a)).secs)) ⟨y5, 4, none⟩ (.int .i64 (oMee (actO m a)).spk)) ⟨y5, 5, none⟩ (.slice Ag0_2 (oMee (actO m a)).wait.length cg0_2)) ⟨y5, 6, none⟩ (.slice Ag0_3 (oMee (actO m a)).shares.length cg0_3)) ⟨y5, 7, none⟩ (.slice Ag0_4 (oMee (actO m a)).outs.length cg0_4)) (some y5) := (grown_set (j := 7) (grown_set (j := 6) (grown_set (j := 5) (grown_set (j := 4) (grown_set (j := 3) (grown_set (j := 2) (grown_set (j := 1) (grown_set (j := 0) (grown_refl WW (some y5)) (.slice Ag0_0 (oMee (actO m a)).rules.length cg0_0)) (.slice Ag0_1 (oMee (actO m a)).pend.length cg0_1)) (.int .i64 (oMee (actO m a)).turns)) (.int .i64 (oMee (actO m a)).secs)) (.int .i64 (oMee (actO m a)).spk)) (.slice Ag0_2 (oMee (actO m a)).wait.length cg0_2)) (.slice Ag0_3 (oMee (actO m a)).shares.length cg0_3)) (.slice Ag0_4 (oMee (actO m a)).outs.length cg0_4))
 have X5 : Blk (World.setCell (World.setCell (World.setCell (World.setCell (World.setCell (World.setCell (World.setCell (World.setCell WW ⟨y5, 0, none⟩ (.slice Ag0_0 (oMee (actO m a)).rules.length cg0_0)) ⟨y5, 1, none⟩ (.slice Ag0_1 (oMee (actO m a)).pend.length cg0_1)) ⟨y5, 2, none⟩ (.int .i64 (oMee (actO m a)).turns)) ⟨y5, 3, none⟩ (.int .i64 (oMee (actO m a)).secs)) ⟨y5, 4, none⟩ (.int .i64 (oMee (actO m a)).spk)) ⟨y5, 5, none⟩ (.slice Ag0_2 (oMee (actO m a)).wait.length cg0_2)) ⟨y5, 6, none⟩ (.slice Ag0_3 (oMee (actO m a)).shares.length cg0_3)) ⟨y5, 7, none⟩ (.slice Ag0_4 (oMee (actO m a)).outs.length cg0_4)) y5 32 #[.slice Ag0_0 (oMee (actO m a)).rules.length cg0_0, .slice Ag0_1 (oMee (actO m a)).pend.length cg0_1, .int .i64 (oMee (actO m a)).turns, .int .i64 (oMee (actO m a)).secs, .int .i64 (oMee (actO m a)).spk, .slice Ag0_2 (oMee (actO m a)).wait.length cg0_2, .slice Ag0_3 (oMee (actO m a)).shares.length cg0_3, .slice Ag0_4 (oMee (actO m a)).outs.length cg0_4] := ((((((((q8W.set_ 0 (.slice Ag0_0 (oMee (actO m a)).rules.length cg0_0)).set_ 1 (.slice Ag0_1 (oMee (actO m a)).pend.length cg0_1)).set_ 2 (.int .i64 (oMee (actO m a)).turns)).set_ 3 (.int .i64 (oMee (actO m a)).secs)).set_ 4 (.int .i64 (oMee (actO m a)).spk)).set_ 5 (.slice Ag0_2 (oMee (actO m a)).wait.length cg0_2)).set_ 6 (.slice Ag0_3 (oMee (actO m a)).shares.length cg0_3)).set_ 7 (.slice Ag0_4 (oMee (actO m a)).outs.length cg0_4))
 generalize World.setCell (World.setCell (World.setCell (World.setCell (World.setCell (World.setCell (World.setCell (World.setCell WW ⟨y5, 0, none⟩ (.slice Ag0_0 (oMee (actO m a)).rules.length cg0_0)) ⟨y5, 1, none⟩ (.slice Ag0_1 (oMee (actO m a)).pend.length cg0_1)) ⟨y5, 2, none⟩ (.int .i64 (oMee (actO m a)).turns)) ⟨y5, 3, none⟩ (.int .i64 (oMee (actO m a)).secs)) ⟨y5, 4, none⟩ (.int .i64 (oMee (actO m a)).spk)) ⟨y5, 5, none⟩ (.slice Ag0_2 (oMee (actO m a)).wait.length cg0_2)) ⟨y5, 6, none⟩ (.slice Ag0_3 (oMee (actO m a)).shares.length cg0_3)) ⟨y5, 7, none⟩ (.slice Ag0_4 (oMee (actO m a)).outs.length cg0_4) = w5 at *
 have hq5 : Below w4.heap.size w4 w5 := hqW.grown gR5 hqW.size (fun q hq => by rw [← Option.some.inj hq]; exact hy5); have Og0_0 := q4W.o0.kept gR5 (fun k hk e => ne5_0 k hk (Option.some.inj e)); have Og0_1 := q4W.o1.kept gR5 (fun k hk e => ne5_1 k hk (Option.some.inj e)); have Og0_2 := q4W.o2.kept gR5 (fun k hk e => ne5_2 k hk (Option.some.inj e)); have Og0_3 := q4W.o3.kept gR5 (fun k hk e => ne5_3 k hk (Option.some.inj e))
 have Og0_4 := q4W.o4.kept gR5 (fun k hk e => ne5_4 k hk (Option.some.inj e)); have apg0 := (MeO.mk Og0_0 Og0_1 Og0_2 Og0_3 Og0_4).apart; clear q4W q8W hqW gR5 fz' g8_' ne5_0 ne5_1 ne5_2 ne5_3 ne5_4
 refine Nrm_keep ((HCC4.out _).2 hq5) (hK2 _ _ ?_)
 refine wpMx_last ?_
 refine wpQuiet_nil ?_
 change wpQuiet _ _ _ _ (_ :: []) _
 haveI : Nonempty (Hld (fun _ => True)) := ⟨⟨w5, trivial⟩⟩
 repeat (go_big_quiet_step (fail))
 refine wpQuiet_nil ?_
 clear HCC4; replace HB := bth HB hq5; replace Ow0_0 := Ow0_0.later hq5; replace Ow0_1 := Ow0_1.later hq5; replace Ow0_2 := Ow0_2.later hq5; replace Ow0_3 := Ow0_3.later hq5; replace Ow0_4 := Ow0_4.later hq5; replace Ox0_0 := Ox0_0.later hq5; replace Ox0_1 := Ox0_1.later hq5; replace Ox0_2 := Ox0_2.later hq5; replace Ox0_3 := Ox0_3.later hq5; replace Ox0_4 := Ox0_4.later hq5; replace X1 := X1.to hq5
 replace X2 := X2.to hq5; replace X3 := X3.to hq5; replace X4 := X4.to hq5
 have ing0 : Within [.slice Ag0_0 (oMee (actO m a)).rules.length cg0_0, .slice Ag0_1 (oMee (actO m a)).pend.length cg0_1, .slice Ag0_2 (oMee (actO m a)).wait.length cg0_2, .slice Ag0_3 (oMee (actO m a)).shares.length cg0_3, .slice Ag0_4 (oMee (actO m a)).outs.length cg0_4] (w4.heap.size) (w5.heap.size) := by
  exact zb55
 obtain ⟨X1_0, X1_1, X1_2, X1_3, X1_4, X1_5, X1_6, X1_7⟩ := X1.cs8
 have X2_' := X2.cs6; have X3_' := X3.cs8
 obtain ⟨X4_0, X4_1, X4_2, X4_3, X4_4, X4_5, X4_6, X4_7⟩ := X4.cs8
 have X5_' := X5.cs8
 go_wp2_with fail
 refine (eqMeeting_is (oMee (actO m a)) Ag0_0 Ag0_1 Ag0_2 Ag0_3 Ag0_4 Aw0_0 Aw0_1 Aw0_2 Aw0_3 Aw0_4 cg0_0 cg0_1 cg0_2 cg0_3 cg0_4 cw0_0 cw0_1 cw0_2 cw0_3 cw0_4 (acL0 m a) (acL1 m a) (acL2 m a) (acL3 m a) (acL4 m a) _ (Og0_0.rds.below bel) (Og0_1.rds.below bel) (Og0_2.rds.below bel) (Og0_3.rds.below bel) (Og0_4.rds.below bel) (Ow0_0.rds.below bel) (Ow0_1.rds.below bel) (Ow0_2.rds.below bel) (Ow0_3.rds.below bel) (Ow0_4.rds.below bel)).mono ?_
 rintro e w6 ⟨rfl, hb6⟩
 clear X1_0 X1_1 X1_2 X1_3 X1_4 X1_5 X1_6 X1_7; clear X2_'; clear X3_'; clear X4_0 X4_1 X4_2 X4_3 X4_4 X4_5 X4_6 X4_7; clear X5_'; have hq6 : Below w5.heap.size w5 w6 := bth bel hb6; replace HB := bth HB hq6; replace Ow0_0 := Ow0_0.later hq6; replace Ow0_1 := Ow0_1.later hq6; replace Ow0_2 := Ow0_2.later hq6; replace Ow0_3 := Ow0_3.later hq6; replace Ow0_4 := Ow0_4.later hq6; replace Ox0_0 := Ox0_0.later hq6
 replace Ox0_1 := Ox0_1.later hq6; replace Ox0_2 := Ox0_2.later hq6; replace Ox0_3 := Ox0_3.later hq6; replace Ox0_4 := Ox0_4.later hq6; replace Og0_0 := Og0_0.later hq6; replace Og0_1 := Og0_1.later hq6; replace Og0_2 := Og0_2.later hq6; replace Og0_3 := Og0_3.later hq6; replace Og0_4 := Og0_4.later hq6; replace X1 := X1.to hq6; replace X2 := X2.to hq6; replace X3 := X3.to hq6; replace X4 := X4.to hq6
 replace X5 := X5.to hq6
 have X1_a : ∀ W, Below w6.heap.size w6 W → Blk W (w.heap.size) 77 #[.slice Am_0 m.rules.length cm_0, .slice Am_1 m.pend.length cm_1, .int .i64 m.turns, .int .i64 m.secs, .int .i64 m.spk, .slice Am_2 m.wait.length cm_2, .slice Am_3 m.shares.length cm_3, .slice Am_4 m.outs.length cm_4] := fun W h => X1.to h
 have X4_a : ∀ W, Below w6.heap.size w6 W → Blk W (w3.heap.size) 32 #[.slice Ax0_0 m.rules.length m.rules.length, .slice Ax0_1 m.pend.length m.pend.length, .int .i64 m.turns, .int .i64 m.secs, .int .i64 m.spk, .slice Ax0_2 m.wait.length m.wait.length, .slice Ax0_3 m.shares.length m.shares.length, .slice Ax0_4 m.outs.length m.outs.length] := fun W h => X4.to h
 have X1_0 := fun W hW => ((X1_a W hW).cell 0).trans (show _ = some (.slice Am_0 m.rules.length cm_0) from rfl)
 have X1_1 := fun W hW => ((X1_a W hW).cell 1).trans (show _ = some (.slice Am_1 m.pend.length cm_1) from rfl)
 have X1_2 := fun W hW => ((X1_a W hW).cell 2).trans (show _ = some (.int .i64 m.turns) from rfl)
 have X1_3 := fun W hW => ((X1_a W hW).cell 3).trans (show _ = some (.int .i64 m.secs) from rfl)
 have X1_4 := fun W hW => ((X1_a W hW).cell 4).trans (show _ = some (.int .i64 m.spk) from rfl)
 have X1_5 := fun W hW => ((X1_a W hW).cell 5).trans (show _ = some (.slice Am_2 m.wait.length cm_2) from rfl)
 have X1_6 := fun W hW => ((X1_a W hW).cell 6).trans (show _ = some (.slice Am_3 m.shares.length cm_3) from rfl)
 have X1_7 := fun W hW => ((X1_a W hW).cell 7).trans (show _ = some (.slice Am_4 m.outs.length cm_4) from rfl)
 have X4_0 := fun W hW => ((X4_a W hW).cell 0).trans (show _ = some (.slice Ax0_0 m.rules.length m.rules.length) from rfl)
 have X4_1 := fun W hW => ((X4_a W hW).cell 1).trans (show _ = some (.slice Ax0_1 m.pend.length m.pend.length) from rfl)
 have X4_2 := fun W hW => ((X4_a W hW).cell 2).trans (show _ = some (.int .i64 m.turns) from rfl)
 have X4_3 := fun W hW => ((X4_a W hW).cell 3).trans (show _ = some (.int .i64 m.secs) from rfl)
 have X4_4 := fun W hW => ((X4_a W hW).cell 4).trans (show _ = some (.int .i64 m.spk) from rfl)
 have X4_5 := fun W hW => ((X4_a W hW).cell 5).trans (show _ = some (.slice Ax0_2 m.wait.length m.wait.length) from rfl)
 have X4_6 := fun W hW => ((X4_a W hW).cell 6).trans (show _ = some (.slice Ax0_3 m.shares.length m.shares.length) from rfl)
 have X4_7 := fun W hW => ((X4_a W hW).cell 7).trans (show _ = some (.slice Ax0_4 m.outs.length m.outs.length) from rfl)
 clear X1_a X4_a
 go_wp2
 go_region_held3 (fun W => Below w6.heap.size w6 W) (first | exact (Below.refl _ _).drew | assumption) ((first
  | (go_at_call 35; refine (toMeeting_is m Am_0 Am_1 Am_2 Am_3 Am_4 cm_0 cm_1 cm_2 cm_3 cm_4 hm_0' hm_1' hm_2' hm_3' hm_4' _ (Rm_0.below (bth HB (Below.refl _ _).drew)) (Rm_1.below (bth HB (Below.refl _ _).drew)) (Rm_2.below (bth HB (Below.refl _ _).drew)) (Rm_3.below (bth HB (Below.refl _ _).drew)) (Rm_4.below (bth HB (Below.refl _ _).drew))).mono ?_; rintro e w7 ⟨Ay0_0, Ay0_1, Ay0_2, Ay0_3, Ay0_4, rfl, Oy0_0, Oy0_1, Oy0_2, Oy0_3, Oy0_4, _, hb7⟩; have hk7 : Below w6.heap.size w6 w7 := bth (Below.refl _ _).drew hb7)
  | (go_at_call 37; refine (eqMeeting_is m Ax0_0 Ax0_1 Ax0_2 Ax0_3 Ax0_4 Ay0_0 Ay0_1 Ay0_2 Ay0_3 Ay0_4 m.rules.length m.pend.length m.wait.length m.shares.length m.outs.length m.rules.length m.pend.length m.wait.length m.shares.length m.outs.length hm_0' hm_1' hm_2' hm_3' hm_4' _ (Ox0_0.rds.below hk7) (Ox0_1.rds.below hk7) (Ox0_2.rds.below hk7) (Ox0_3.rds.below hk7) (Ox0_4.rds.below hk7) Oy0_0.rds Oy0_1.rds Oy0_2.rds Oy0_3.rds Oy0_4.rds).mono ?_; rintro e w8 ⟨rfl, hb8⟩; have hk8 : Below w6.heap.size w6 w8 := bth hk7 hb8)))
 clear X1_0 X1_1 X1_2 X1_3 X1_4 X1_5 X1_6 X1_7 X4_0 X4_1 X4_2 X4_3 X4_4 X4_5 X4_6 X4_7; replace HB := bth HB hk8; replace Ow0_0 := Ow0_0.later hk8; replace Ow0_1 := Ow0_1.later hk8; replace Ow0_2 := Ow0_2.later hk8; replace Ow0_3 := Ow0_3.later hk8; replace Ow0_4 := Ow0_4.later hk8; replace Ox0_0 := Ox0_0.later hk8; replace Ox0_1 := Ox0_1.later hk8; replace Ox0_2 := Ox0_2.later hk8; replace Ox0_3 := Ox0_3.later hk8
 replace Ox0_4 := Ox0_4.later hk8; replace Og0_0 := Og0_0.later hk8; replace Og0_1 := Og0_1.later hk8; replace Og0_2 := Og0_2.later hk8; replace Og0_3 := Og0_3.later hk8; replace Og0_4 := Og0_4.later hk8; replace X1 := X1.to hk8; replace X2 := X2.to hk8; replace X3 := X3.to hk8; replace X4 := X4.to hk8; replace X5 := X5.to hk8
 obtain ⟨X1_0, X1_1, X1_2, X1_3, X1_4, X1_5, X1_6, X1_7⟩ := X1.cs8
 have X2_' := X2.cs6; have X3_' := X3.cs8
 obtain ⟨X4_0, X4_1, X4_2, X4_3, X4_4, X4_5, X4_6, X4_7⟩ := X4.cs8
 have X5_' := X5.cs8
 go_wp2_with fail
 refine (mkMeeting_is m Ax0_0 Ax0_1 Ax0_2 Ax0_3 Ax0_4 m.rules.length m.pend.length m.wait.length m.shares.length m.outs.length hm_0' hm_1' hm_2' hm_3' hm_4' (1) (by omega) (by omega) _ Ox0_0 Ox0_1 Ox0_2 Ox0_3 Ox0_4 apx0).mono ?_
 rintro e w9 ⟨rfl, M9_0, M9_1, M9_2, M9_3, M9_4, HG9⟩
 clear X1_0 X1_1 X1_2 X1_3 X1_4 X1_5 X1_6 X1_7; clear X2_'; clear X3_'; clear X4_0 X4_1 X4_2 X4_3 X4_4 X4_5 X4_6 X4_7; clear X5_'; replace HB := HB.trans (HG9.below inx0 (by omega) HB.size); replace Ow0_0 := Ow0_0.keptL HG9 inw0 inx0 (by simp) (by omega); replace Ow0_1 := Ow0_1.keptL HG9 inw0 inx0 (by simp) (by omega); replace Ow0_2 := Ow0_2.keptL HG9 inw0 inx0 (by simp) (by omega); replace Ow0_3 := Ow0_3.keptL HG9 inw0 inx0 (by simp) (by omega)
 replace Ow0_4 := Ow0_4.keptL HG9 inw0 inx0 (by simp) (by omega); replace Og0_0 := Og0_0.keptL HG9 ing0 inx0 (by simp) (by omega); replace Og0_1 := Og0_1.keptL HG9 ing0 inx0 (by simp) (by omega); replace Og0_2 := Og0_2.keptL HG9 ing0 inx0 (by simp) (by omega); replace Og0_3 := Og0_3.keptL HG9 ing0 inx0 (by simp) (by omega); replace Og0_4 := Og0_4.keptL HG9 ing0 inx0 (by simp) (by omega); replace X1 := X1.keptL HG9 inx0 (by omega)
 replace X2 := X2.keptL HG9 inx0 (by omega); replace X3 := X3.keptL HG9 inx0 (by omega); replace X4 := X4.keptL HG9 inx0 (by omega); replace X5 := X5.keptL HG9 inx0 (by omega)
 obtain ⟨X1_0, X1_1, X1_2, X1_3, X1_4, X1_5, X1_6, X1_7⟩ := X1.cs8
 have X2_' := X2.cs6; have X3_' := X3.cs8; have X5_' := X5.cs8
 go_wp2_with fail
 refine (eqMeeting_is (oMee (actO m a)) Ag0_0 Ag0_1 Ag0_2 Ag0_3 Ag0_4 Aw0_0 Aw0_1 Aw0_2 Aw0_3 Aw0_4 cg0_0 cg0_1 cg0_2 cg0_3 cg0_4 cw0_0 cw0_1 cw0_2 cw0_3 cw0_4 (acL0 m a) (acL1 m a) (acL2 m a) (acL3 m a) (acL4 m a) _ (Og0_0.rds.below bel) (Og0_1.rds.below bel) (Og0_2.rds.below bel) (Og0_3.rds.below bel) (Og0_4.rds.below bel) (Ow0_0.rds.below bel) (Ow0_1.rds.below bel) (Ow0_2.rds.below bel) (Ow0_3.rds.below bel) (Ow0_4.rds.below bel)).mono ?_
 rintro e w10 ⟨rfl, hb10⟩
 clear X1_0 X1_1 X1_2 X1_3 X1_4 X1_5 X1_6 X1_7; clear X2_'; clear X3_'; clear X5_'; have hq10 : Below w9.heap.size w9 w10 := bth bel hb10; replace HB := bth HB hq10; replace Ow0_0 := Ow0_0.later hq10; replace Ow0_1 := Ow0_1.later hq10; replace Ow0_2 := Ow0_2.later hq10; replace Ow0_3 := Ow0_3.later hq10; replace Ow0_4 := Ow0_4.later hq10; replace Og0_0 := Og0_0.later hq10; replace Og0_1 := Og0_1.later hq10
 replace Og0_2 := Og0_2.later hq10; replace Og0_3 := Og0_3.later hq10; replace Og0_4 := Og0_4.later hq10; replace X1 := X1.to hq10; replace X2 := X2.to hq10; replace X3 := X3.to hq10; replace X4 := X4.to hq10; replace X5 := X5.to hq10
 obtain ⟨X1_0, X1_1, X1_2, X1_3, X1_4, X1_5, X1_6, X1_7⟩ := X1.cs8
 have X2_' := X2.cs6; have X3_' := X3.cs8; have X5_' := X5.cs8
 go_wp2_with fail
 refine (mkMeeting_is (oMee (actO m a)) Ag0_0 Ag0_1 Ag0_2 Ag0_3 Ag0_4 cg0_0 cg0_1 cg0_2 cg0_3 cg0_4 (acL0 m a) (acL1 m a) (acL2 m a) (acL3 m a) (acL4 m a) (1) (by omega) (by omega) _ Og0_0 Og0_1 Og0_2 Og0_3 Og0_4 apg0).mono ?_
 rintro e w11 ⟨rfl, M11_0, M11_1, M11_2, M11_3, M11_4, HG11⟩
 clear X1_0 X1_1 X1_2 X1_3 X1_4 X1_5 X1_6 X1_7; clear X2_'; clear X3_'; clear X5_'; replace HB := HB.trans (HG11.below ing0 (by omega) HB.size); replace Ow0_0 := Ow0_0.keptL HG11 inw0 ing0 (by simp) (by omega); replace Ow0_1 := Ow0_1.keptL HG11 inw0 ing0 (by simp) (by omega); replace Ow0_2 := Ow0_2.keptL HG11 inw0 ing0 (by simp) (by omega); replace Ow0_3 := Ow0_3.keptL HG11 inw0 ing0 (by simp) (by omega)
 replace Ow0_4 := Ow0_4.keptL HG11 inw0 ing0 (by simp) (by omega); replace X1 := X1.keptL HG11 ing0 (by omega); replace X2 := X2.keptL HG11 ing0 (by omega); replace X3 := X3.keptL HG11 ing0 (by omega); replace X4 := X4.keptL HG11 ing0 (by omega); replace X5 : Blk w11 y5 32 #[.slice Ag0_0 (oMee (actO m a)).rules.length cg0_0, .slice Ag0_1 (oMee (actO m a)).pend.length cg0_1, .int .i64 (oMee (actO m a)).turns, .int .i64 (oMee (actO m a)).secs, .int .i64 (oMee (actO m a)).spk, .slice Ag0_2 (oMee (actO m a)).wait.length cg0_2, .slice Ag0_3 (oMee (actO m a)).shares.length cg0_3, .slice Ag0_4 (oMee (actO m a)).outs.length cg0_4] := (HG11.block _ X5.lt (fun u hu e => by simp only [List.mem_cons, List.not_mem_nil, or_false] at hu; rcases hu with rfl | rfl | rfl | rfl | rfl <;> first | exact Og0_0.notBlkV X5 (by decide) _ e rfl | exact Og0_1.notBlkV X5 (by decide) _ e rfl | exact Og0_2.notBlkV X5 (by decide) _ e rfl | exact Og0_3.notBlkV X5 (by decide) _ e rfl | exact Og0_4.notBlkV X5 (by decide) _ e rfl)).trans X5
 obtain ⟨X1_0, X1_1, X1_2, X1_3, X1_4, X1_5, X1_6, X1_7⟩ := X1.cs8
 have X2_' := X2.cs6; have X3_' := X3.cs8; have X5_' := X5.cs8
 go_wp2_with fail
 refine (hdMeeting_is (oMee (actO m a)) Ag0_0 Ag0_1 Ag0_2 Ag0_3 Ag0_4 cg0_0 cg0_1 cg0_2 cg0_3 cg0_4 (acL0 m a) (acL1 m a) (acL2 m a) (acL3 m a) (acL4 m a) (1) (by omega) (by omega) _ (M11_0.rds.below bel) (M11_1.rds.below bel) (M11_2.rds.below bel) (M11_3.rds.below bel) (M11_4.rds.below bel)).mono ?_
 rintro e w12 ⟨rfl, hb12⟩
 clear X1_0 X1_1 X1_2 X1_3 X1_4 X1_5 X1_6 X1_7; clear X2_'; clear X3_'; clear X5_'; have hq12 : Below w11.heap.size w11 w12 := bth bel hb12; replace HB := bth HB hq12; replace Ow0_0 := Ow0_0.later hq12; replace Ow0_1 := Ow0_1.later hq12; replace Ow0_2 := Ow0_2.later hq12; replace Ow0_3 := Ow0_3.later hq12; replace Ow0_4 := Ow0_4.later hq12; replace M11_0 := M11_0.later hq12; replace M11_1 := M11_1.later hq12
 replace M11_2 := M11_2.later hq12; replace M11_3 := M11_3.later hq12; replace M11_4 := M11_4.later hq12; replace X1 := X1.to hq12; replace X2 := X2.to hq12; replace X3 := X3.to hq12; replace X4 := X4.to hq12; replace X5 := X5.to hq12
 go_wp2
 obtain ⟨CC12, hCC12⟩ : ∃ X : World → Prop, ∀ V, X V ↔ Below w12.heap.size w12 V := ⟨_, fun _ => Iff.rfl⟩
 have HCC12 := lh hCC12; clear hCC12
 haveI : Nonempty (Hld CC12) := ⟨⟨w12, (HCC12.out _).2 (Below.refl _ _)⟩⟩
 obtain ⟨X1_0, X1_1, X1_2, X1_3, X1_4, X1_5, X1_6, X1_7⟩ := Blk.cs8K (fun K : Hld CC12 => (X1.below ((HCC12.out _).1 K.holds) X1.lt))
 have X2_' := Blk.cs6K (fun K : Hld CC12 => (X2.below ((HCC12.out _).1 K.holds) X2.lt))
 refine wp_region_mky (mkaS 1 3 4 8 [1] m a ((oMee (actO m a))) ((actO m a).isSome)) CC12 [([0], 1), ([2], 3), ([], 4), ([], 8)] [5, 6, 7] [([], [], 9, false)] [] [10] (by kernel_rfl) (by kernel_rfl) ((HCC12.out _).2 (Below.refl _ _).drew) (fun W W' h k => (HCC12.out _).2 (bth ((HCC12.out _).1 h) k)) ?_
 intro σ
 refine wpMk1_cons (some 81) rfl (.agg #[.slice ((σ 1).1 0) m.rules.length m.rules.length, .slice ((σ 1).1 1) m.pend.length m.pend.length, .int .i64 m.turns, .int .i64 m.secs, .int .i64 m.spk, .slice ((σ 1).1 2) m.wait.length m.wait.length, .slice ((σ 1).1 3) m.shares.length m.shares.length, .slice ((σ 1).1 4) m.outs.length m.outs.length]) rfl fun K1 hK1 => ?_
 change wpQuiet _ _ _ _ (_ :: []) _
 repeat (go_big_quiet_step (fail))
 refine wpQuiet_nil ?_
 refine ⟨fun kq hpar => ?_, hK1 _ ?_⟩
 ·change wpList _ _ _ (_ :: []) _ _
  go_wp2_with fail
  refine (toMeeting_is m Am_0 Am_1 Am_2 Am_3 Am_4 cm_0 cm_1 cm_2 cm_3 cm_4 hm_0' hm_1' hm_2' hm_3' hm_4' kq.world (Rm_0.below (bth HB ((HCC12.out _).1 kq.holds))) (Rm_1.below (bth HB ((HCC12.out _).1 kq.holds))) (Rm_2.below (bth HB ((HCC12.out _).1 kq.holds))) (Rm_3.below (bth HB ((HCC12.out _).1 kq.holds))) (Rm_4.below (bth HB ((HCC12.out _).1 kq.holds)))).mono ?_
  exact zb115
 simp only [Act.put]
 go_simp
 refine wpMk1_cons (some 83) rfl (.agg #[.int .i64 a.kind, .int .i64 a.mem, .int .i64 a.val, .int .i64 a.yes, .int .i64 a.no, .int .i64 a.abst]) rfl fun K1 hK1 => ?_
 change wpQuiet _ _ _ _ (_ :: []) _
 repeat (go_big_quiet_step (fail))
 refine wpQuiet_nil ?_
 refine ⟨fun kq hpar => ?_, hK1 _ ?_⟩
 ·exact zb112
 simp only [Act.put]
 go_simp
 refine wpMk1_cons (some 84) rfl (.tuple #[.agg #[.slice ((σ 4).1 0) (oMee (actO m a)).rules.length ((σ 4).2 0), .slice ((σ 4).1 1) (oMee (actO m a)).pend.length ((σ 4).2 1), .int .i64 (oMee (actO m a)).turns, .int .i64 (oMee (actO m a)).secs, .int .i64 (oMee (actO m a)).spk, .slice ((σ 4).1 2) (oMee (actO m a)).wait.length ((σ 4).2 2), .slice ((σ 4).1 3) (oMee (actO m a)).shares.length ((σ 4).2 3), .slice ((σ 4).1 4) (oMee (actO m a)).outs.length ((σ 4).2 4)], .bool (actO m a).isSome]) rfl fun K1 hK1 => ?_
 change wpQuiet _ _ _ _ ([]) _
 refine wpQuiet_nil ?_
 refine ⟨fun kq hpar => ?_, hK1 _ ?_⟩
 ·change wpList _ _ _ (_ :: []) _ _
  obtain ⟨V0, V1, _, hp1, hv1⟩ := hpar 1 (by simp [mkaS])
  have q1 : MeO V0.heap.size V1 ((σ 1).1 0) m.rules.length ((σ 1).1 1) m.pend.length ((σ 1).1 2) m.wait.length ((σ 1).1 3) m.shares.length ((σ 1).1 4) m.outs.length m.rules m.pend m.wait m.shares m.outs := hp1; have q1w := q1.later hv1; clear hp1 q1
  go_wp2_with fail
  refine (iMakeAct_is m ((σ 1).1 0) ((σ 1).1 1) ((σ 1).1 2) ((σ 1).1 3) ((σ 1).1 4) m.rules.length m.pend.length m.wait.length m.shares.length m.outs.length hm_0' hm_1' hm_2' hm_3' hm_4' a kq.world q1w.o0.rds q1w.o1.rds q1w.o2.rds q1w.o3.rds q1w.o4.rds q1w.o0.nilOk q1w.o1.nilOk q1w.o2.nilOk q1w.o3.nilOk q1w.o4.nilOk (Nat.le_refl _) (Nat.le_refl _) (Nat.le_refl _) (Nat.le_refl _) (Nat.le_refl _) ).mono ?_
  exact zb109
 simp only [Act.put]
 go_simp
 refine wpMk1_cons (some 14) rfl (.pointer (some ⟨(σ 8).2 0, 0, none⟩)) rfl fun K1 hK1 => ?_
 change wpQuiet _ _ _ _ ([]) _
 refine wpQuiet_nil ?_
 refine ⟨fun kq hpar => ?_, hK1 _ ?_⟩
 ·exact zb130
 simp only [Act.put]
 go_simp
 refine wpMk1_last ?_
 change wpQuiet _ _ _ _ (_ :: _ :: _ :: []) _
 repeat (go_big_quiet_step (fail))
 refine wpQuiet_nil ?_
 intro V0 V WW hM hW
 obtain ⟨e8, q8⟩ : (σ 8).2 0 = (V0 8).heap.size ∧ Blk (V 8) (V0 8).heap.size 32 #[.slice none 0 0, .slice none 0 0, .int .i64 0, .int .i64 0, .int .i64 0, .slice none 0 0, .slice none 0 0, .slice none 0 0] := hM.post 8 (by simp)
 have q8W := q8.below (hM.later 8 (by simp)) q8.lt; have h80 := (hM.from0 8 (by simp)).size; have q4 : MeO (V0 4).heap.size (V 4) ((σ 4).1 0) ((σ 4).2 0) ((σ 4).1 1) ((σ 4).2 1) ((σ 4).1 2) ((σ 4).2 2) ((σ 4).1 3) ((σ 4).2 3) ((σ 4).1 4) ((σ 4).2 4) (oMee (actO m a)).rules (oMee (actO m a)).pend (oMee (actO m a)).wait (oMee (actO m a)).shares (oMee (actO m a)).outs := hM.post 4 (by simp); have q4W := (q4.later (hM.later 4 (by simp))).base (B' := w12.heap.size) (hM.from0 4 (by simp)).size
 have hqW : Below w12.heap.size w12 WW := (hM.whole 8 (by simp)).undrew; clear q8 q4
 rw [← e8] at q8W
 clear X1_0 X1_1 X1_2 X1_3 X1_4 X1_5 X1_6 X1_7 X2_'
 generalize hg8 : (σ 8).2 0 = y13 at *
 generalize (σ 4).1 0 = Ah0_0 at *
 generalize (σ 4).2 0 = ch0_0 at *
 generalize (σ 4).1 1 = Ah0_1 at *
 generalize (σ 4).2 1 = ch0_1 at *
 generalize (σ 4).1 2 = Ah0_2 at *
 generalize (σ 4).2 2 = ch0_2 at *
 generalize (σ 4).1 3 = Ah0_3 at *
 generalize (σ 4).2 3 = ch0_3 at *
 generalize (σ 4).1 4 = Ah0_4 at *
 generalize (σ 4).2 4 = ch0_4 at *
 generalize (σ 1).1 0 = J13_0 at *
 generalize (σ 1).1 1 = J13_1 at *
 generalize (σ 1).1 2 = J13_2 at *
 generalize (σ 1).1 3 = J13_3 at *
 generalize (σ 1).1 4 = J13_4 at *
 have hy13 : w12.heap.size ≤ y13 := by rw [e8]; exact h80
 clear e8 h80; have ne13_0 : ∀ k, (Value.slice Ah0_0 (oMee (actO m a)).rules.length ch0_0).ownBlock = some k → ¬ k = y13 := q4W.o0.notBlkV q8W (by decide); have ne13_1 : ∀ k, (Value.slice Ah0_1 (oMee (actO m a)).pend.length ch0_1).ownBlock = some k → ¬ k = y13 := q4W.o1.notBlkV q8W (by decide); have ne13_2 : ∀ k, (Value.slice Ah0_2 (oMee (actO m a)).wait.length ch0_2).ownBlock = some k → ¬ k = y13 := q4W.o2.notBlkV q8W (by decide)
 have ne13_3 : ∀ k, (Value.slice Ah0_3 (oMee (actO m a)).shares.length ch0_3).ownBlock = some k → ¬ k = y13 := q4W.o3.notBlkV q8W (by decide); have ne13_4 : ∀ k, (Value.slice Ah0_4 (oMee (actO m a)).outs.length ch0_4).ownBlock = some k → ¬ k = y13 := q4W.o4.notBlkV q8W (by decide)
 refine wpMx_cons fun K2 hK2 => ?_
 refine wpQuiet_nil ?_
 refine wpQuiet_nil ?_
 change wpList _ _ _ (_ :: []) _ _
 have fz' := q8W.fz8; have g8_' := q8W.cs8
 go_wp2
 have gR13 : World.grownBy WW (World.setCell (World.setCell (World.setCell (World.setCell (World.setCell (World.setCell (World.setCell (World.setCell WW ⟨y13, 0, none⟩ (.slice Ah0_0 (oMee (actO m a)).rules.length ch0_0)) ⟨y13, 1, none⟩ (.slice Ah0_1 (oMee (actO m a)).pend.length ch0_1)) ⟨y13, 2, none⟩ (.int .i64 (oMee (actO m a)).turns)) ⟨y13, 3, none⟩ (.int .i64 (oMee (actO m a)).secs)) ⟨y13, 4, none⟩ (.int .i64 (oMee (actO m a)).spk)) ⟨y13, 5, none⟩ (.slice Ah0_2 (oMee (actO m a)).wait.length ch0_2)) ⟨y13, 6, none⟩ (.slice Ah0_3 (oMee (actO m a)).shares.length ch0_3)) ⟨y13, 7, none⟩ (.slice Ah0_4 (oMee (actO m a)).outs.length ch0_4)) (some y13) := (grown_set (j := 7) (grown_set (j := 6) (grown_set (j := 5) (grown_set (j := 4) (grown_set (j := 3) (grown_set (j := 2) (grown_set (j := 1) (grown_set (j := 0) (grown_refl WW (some y13)) (.slice Ah0_0 (oMee (actO m a)).rules.length ch0_0)) (.slice Ah0_1 (oMee (actO m a)).pend.length ch0_1)) (.int .i64 (oMee (actO m a)).turns)) (.int .i64 (oMee (actO m a)).secs)) (.int .i64 (oMee (actO m a)).spk)) (.slice Ah0_2 (oMee (actO m a)).wait.length ch0_2)) (.slice Ah0_3 (oMee (actO m a)).shares.length ch0_3)) (.slice Ah0_4 (oMee (actO m a)).outs.length ch0_4))
 have X6 : Blk (World.setCell (World.setCell (World.setCell (World.setCell (World.setCell (World.setCell (World.setCell (World.setCell WW ⟨y13, 0, none⟩ (.slice Ah0_0 (oMee (actO m a)).rules.length ch0_0)) ⟨y13, 1, none⟩ (.slice Ah0_1 (oMee (actO m a)).pend.length ch0_1)) ⟨y13, 2, none⟩ (.int .i64 (oMee (actO m a)).turns)) ⟨y13, 3, none⟩ (.int .i64 (oMee (actO m a)).secs)) ⟨y13, 4, none⟩ (.int .i64 (oMee (actO m a)).spk)) ⟨y13, 5, none⟩ (.slice Ah0_2 (oMee (actO m a)).wait.length ch0_2)) ⟨y13, 6, none⟩ (.slice Ah0_3 (oMee (actO m a)).shares.length ch0_3)) ⟨y13, 7, none⟩ (.slice Ah0_4 (oMee (actO m a)).outs.length ch0_4)) y13 32 #[.slice Ah0_0 (oMee (actO m a)).rules.length ch0_0, .slice Ah0_1 (oMee (actO m a)).pend.length ch0_1, .int .i64 (oMee (actO m a)).turns, .int .i64 (oMee (actO m a)).secs, .int .i64 (oMee (actO m a)).spk, .slice Ah0_2 (oMee (actO m a)).wait.length ch0_2, .slice Ah0_3 (oMee (actO m a)).shares.length ch0_3, .slice Ah0_4 (oMee (actO m a)).outs.length ch0_4] := ((((((((q8W.set_ 0 (.slice Ah0_0 (oMee (actO m a)).rules.length ch0_0)).set_ 1 (.slice Ah0_1 (oMee (actO m a)).pend.length ch0_1)).set_ 2 (.int .i64 (oMee (actO m a)).turns)).set_ 3 (.int .i64 (oMee (actO m a)).secs)).set_ 4 (.int .i64 (oMee (actO m a)).spk)).set_ 5 (.slice Ah0_2 (oMee (actO m a)).wait.length ch0_2)).set_ 6 (.slice Ah0_3 (oMee (actO m a)).shares.length ch0_3)).set_ 7 (.slice Ah0_4 (oMee (actO m a)).outs.length ch0_4))
 generalize World.setCell (World.setCell (World.setCell (World.setCell (World.setCell (World.setCell (World.setCell (World.setCell WW ⟨y13, 0, none⟩ (.slice Ah0_0 (oMee (actO m a)).rules.length ch0_0)) ⟨y13, 1, none⟩ (.slice Ah0_1 (oMee (actO m a)).pend.length ch0_1)) ⟨y13, 2, none⟩ (.int .i64 (oMee (actO m a)).turns)) ⟨y13, 3, none⟩ (.int .i64 (oMee (actO m a)).secs)) ⟨y13, 4, none⟩ (.int .i64 (oMee (actO m a)).spk)) ⟨y13, 5, none⟩ (.slice Ah0_2 (oMee (actO m a)).wait.length ch0_2)) ⟨y13, 6, none⟩ (.slice Ah0_3 (oMee (actO m a)).shares.length ch0_3)) ⟨y13, 7, none⟩ (.slice Ah0_4 (oMee (actO m a)).outs.length ch0_4) = w13 at *
 have hq13 : Below w12.heap.size w12 w13 := hqW.grown gR13 hqW.size (fun q hq => by rw [← Option.some.inj hq]; exact hy13); have Oh0_0 := q4W.o0.kept gR13 (fun k hk e => ne13_0 k hk (Option.some.inj e)); have Oh0_1 := q4W.o1.kept gR13 (fun k hk e => ne13_1 k hk (Option.some.inj e)); have Oh0_2 := q4W.o2.kept gR13 (fun k hk e => ne13_2 k hk (Option.some.inj e)); have Oh0_3 := q4W.o3.kept gR13 (fun k hk e => ne13_3 k hk (Option.some.inj e))
 have Oh0_4 := q4W.o4.kept gR13 (fun k hk e => ne13_4 k hk (Option.some.inj e)); clear q4W q8W hqW gR13 fz' g8_' ne13_0 ne13_1 ne13_2 ne13_3 ne13_4
 refine Nrm_keep ((HCC12.out _).2 hq13) (hK2 _ _ ?_)
 refine wpMx_last ?_
 refine wpQuiet_nil ?_
 change wpQuiet _ _ _ _ (_ :: []) _
 haveI : Nonempty (Hld (fun _ => True)) := ⟨⟨w13, trivial⟩⟩
 repeat (go_big_quiet_step (fail))
 refine wpQuiet_nil ?_
 clear HCC12; replace HB := bth HB hq13; replace Ow0_0 := Ow0_0.later hq13; replace Ow0_1 := Ow0_1.later hq13; replace Ow0_2 := Ow0_2.later hq13; replace Ow0_3 := Ow0_3.later hq13; replace Ow0_4 := Ow0_4.later hq13; replace M11_0 := M11_0.later hq13; replace M11_1 := M11_1.later hq13; replace M11_2 := M11_2.later hq13; replace M11_3 := M11_3.later hq13; replace M11_4 := M11_4.later hq13; replace X1 := X1.to hq13
 replace X3 := X3.to hq13; replace X4 := X4.to hq13; replace X5 := X5.to hq13; have X3_' := X3.cs8; have X5_' := X5.cs8; have X6_' := X6.cs8
 go_wp2_with fail
 refine (eqMeeting_is (oMee (actO m a)) Ah0_0 Ah0_1 Ah0_2 Ah0_3 Ah0_4 Aw0_0 Aw0_1 Aw0_2 Aw0_3 Aw0_4 ch0_0 ch0_1 ch0_2 ch0_3 ch0_4 cw0_0 cw0_1 cw0_2 cw0_3 cw0_4 (acL0 m a) (acL1 m a) (acL2 m a) (acL3 m a) (acL4 m a) _ (Oh0_0.rds.below bel) (Oh0_1.rds.below bel) (Oh0_2.rds.below bel) (Oh0_3.rds.below bel) (Oh0_4.rds.below bel) (Ow0_0.rds.below bel) (Ow0_1.rds.below bel) (Ow0_2.rds.below bel) (Ow0_3.rds.below bel) (Ow0_4.rds.below bel)).mono ?_
 rintro e w14 ⟨rfl, hb14⟩
 clear X3_'; clear X5_'; clear X6_'; have hq14 : Below w13.heap.size w13 w14 := bth bel hb14; replace HB := bth HB hq14; replace M11_0 := M11_0.later hq14; replace M11_1 := M11_1.later hq14; replace M11_2 := M11_2.later hq14; replace M11_3 := M11_3.later hq14; replace M11_4 := M11_4.later hq14; replace X1 := X1.to hq14; replace X4 := X4.to hq14; replace X5 := X5.to hq14; have X5_' := X5.cs8
 go_wp2_with fail
 refine (hdMeeting_is (oMee (actO m a)) Ag0_0 Ag0_1 Ag0_2 Ag0_3 Ag0_4 cg0_0 cg0_1 cg0_2 cg0_3 cg0_4 (acL0 m a) (acL1 m a) (acL2 m a) (acL3 m a) (acL4 m a) (1) (by omega) (by omega) _ (M11_0.rds.below bel) (M11_1.rds.below bel) (M11_2.rds.below bel) (M11_3.rds.below bel) (M11_4.rds.below bel)).mono ?_
 rintro e w15 ⟨rfl, hb15⟩
 clear X5_'; have hq15 : Below w14.heap.size w14 w15 := bth bel hb15; replace HB := bth HB hq15; replace X1 := X1.to hq15; replace X4 := X4.to hq15
 go_wp2
 go_ret
 exact ⟨rfl, bth HB bel⟩
open Go.ChangeShapes Go.WideShapes Go.ChangeAt Go.Deep
theorem makeActL_lifted (os : Os) (started : os.Started) (H : Type) (enc : TypeId × Value → H) :
  ReturnsInHanded {} Tryz.checked os 5 .any (Rows.fnExactMakeActSpec.pre6 enc Tryz.prog Tryz.f5 Rows.fnExactMakeActRow.domain false) (Rows.fnExactMakeActSpec.post enc Tryz.prog Tryz.f5 false true false false) := by
 refine law_lift (C := Tryz.checked) (rt := 4) prog_own started (by kernel_rfl) Tryz.func5
  (ChangeSpec.witness6 (enc := enc) (C := Tryz.checked) false ⟨#[], #[.agg #[.slice none 0 0, .slice none 0 0, .int .i64 0, .int .i64 0, .int .i64 0, .slice none 0 0, .slice none 0 0, .slice none 0 0],  .agg #[.int .i64 0, .int .i64 0, .int .i64 0, .int .i64 0, .int .i64 0, .int .i64 0]], []⟩ 8 (by kernel_rfl) (by kernel_rfl) (by kernel_rfl) (by kernel_rfl))
  prog_laid (by rw [Tryz.params5]; intro t ht; simp at ht; rcases ht with rfl | rfl; all_goals exact ⟨by kernel_rfl, of_decide_eq_true (by kernel_rfl)⟩) rfl Tryz.underlying4 rfl
  (by rw [Tryz.params5]; intro l hl; match l, hl with | [d0, d1], _ => rfl) ?_
 intro W base args ds p hval hA
 rw [Tryz.params5] at hA hval
 obtain ⟨v0, v1, d0, d1, p0, p1, rfl, rfl, rfl, h0, h1⟩ := trodAll_two hA
 obtain ⟨cs_1, rfl, _⟩ := okWide_struct Tryz.underlying80 (hval 1 80 v1 rfl rfl)
 obtain ⟨fuel_1, f_1⟩ := h1
 obtain ⟨a, e_1⟩ := rd_Ac f_1
 rw [agg_of_list (cs := cs_1) e_1]
 obtain ⟨cs_0, rfl, _⟩ := okWide_struct Tryz.underlying77 (hval 0 77 v0 rfl rfl)
 obtain ⟨fuel_0, f_0⟩ := h0
 obtain ⟨m, A0, A1, A2, A3, A4, c0, c1, c2, c3, c4, e_0, l0, l1, l2, l3, l4, R0, R1, R2, R3, R4⟩ := rd_Mee f_0
 rw [agg_of_list (cs := cs_0) e_0]
 exact law_makeActL m A0 A1 A2 A3 A4 c0 c1 c2 c3 c4 l0 l1 l2 l3 l4 a W R0 R1 R2 R3 R4
theorem makeActL_holds : Rows.FnExactMakeActSaid :=
 OpenClaim.holds_of_wide 5 Tryz.f5 rfl rfl rfl rfl rfl rfl rfl ⟨rfl, rfl, rfl, rfl, rfl⟩ rfl rfl rfl rfl rfl (by kernel_rfl) Tryz.func5 (by kernel_rfl)
  (of_decide_eq_true (by kernel_rfl)) (by unfold Func.isWrapper; rw [if_neg (of_decide_eq_false (by kernel_rfl))]; exact ⟨rfl, rfl⟩)
  (fun os started H enc _ => makeActL_lifted os started H enc)
#print axioms makeActL_holds
end Go.Proofs.YtjimibkgocieoaaGreat
