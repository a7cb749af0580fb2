/- Texts of the proof: walks of the functions, and what they compute. -/
import Derived.Test.YtjimibkgocieoaaGreatRb0
import Derived.Test.YtjimibkgocieoaaGreatRb18
import Derived.Test.YtjimibkgocieoaaGreatRb11
import Derived.Test.YtjimibkgocieoaaGreatRb16
import Derived.Test.YtjimibkgocieoaaGreatRb8
set_option maxHeartbeats 16000000
set_option maxRecDepth 100000
namespace Go.Proofs.YtjimibkgocieoaaGreat
open Go.RowKit Go.G9
def voSq (ado : Bool) (o : Out) : MkSpec Nat where
 par := fun _ => []
 val := fun n p => match n with
  | 8 => .bool ado
  | 10 => .slice (some ⟨p, 0, none⟩) 1 1
  | _ => undef
 post := fun n _ p V0 V => match n with
  | 10 => V0.heap.size = p ∧ Blk V p 44 #[.int .i64 o.rule, .int .i64 o.mover, .bool o.ado]
  | _ => True
theorem zb97 {p : Prop} (h : p := by
 have h0 : i = 0 := by have := (List.getElem?_eq_some_iff.1 hy).1; simp at this; omega
 subst h0; simp at hy; subst hy
 rw [Nat.zero_mul, Nat.zero_add]
 exact (hBB.cell _).trans (by simpa [Out.cells] using hu)) : p := h
theorem zb102 {p : Prop} (h : p := by
 exact ⟨D0, d0, some ⟨g1, 0, none⟩, d1, none, 0, none, 0, Y, yc, rfl, meoOf (O0.base (by omega)) (by rw [HJL.out]; exact O1.base (by omega)) (by rw [HLO.out]; exact O4.base (by omega)), HB⟩) : p := h
theorem sVoteT_is (A0 A1 A2 A3 A4 : Option Addr) (c0 c1 c2 c3 c4 : Nat) (rs : List Rul) (qs : List Que) (tu se sp : Int) (ws : List Int) (sh : List Sha) (os : List Out) (Z : MeeIn A0 A1 A2 A3 A4 c0 c1 c2 c3 c4 rs qs ws sh os) (yes no abst : Int) (hs : (sp != 0) = false) (j : Nat) (hj : qs.length = j + 1) (qr qm : Int) (qe : Bool) (hq : qs[j]? = some ⟨qr, qm, qe⟩) (hp : pendB rs qs = true) (hl : lstB rs qs = false) (ht : tallyB yes no abst = true) (ho : os.length < 12) (w : World) (R : MeR w A0 A1 A2 A3 A4 rs qs ws sh os) :
 Calls Tryz.prog 112 #[.agg #[.slice A0 rs.length c0, .slice A1 qs.length c1, .int .i64 tu, .int .i64 se, .int .i64 sp, .slice A2 ws.length c2, .slice A3 sh.length c3, .slice A4 os.length c4], .agg #[.int .i64 yes, .int .i64 no, .int .i64 abst]] w fun e w' => ∃ D0 d0 D1 d1 D2 d2 D3 d3 D4 d4, e = .returned (.tuple #[.agg #[.slice D0 rs.length d0, .slice D1 (qs.take j).length d1, .int .i64 tu, .int .i64 se, .int .i64 0, .slice D2 ([] : List Int).length d2, .slice D3 ([] : List Sha).length d3, .slice D4 (os ++ [(⟨qr, qm, adoB (needOf rs ⟨qr, qm, qe⟩) yes no⟩ : Out)]).length d4], .bool true]) ∧ MeO w.heap.size w' D0 d0 D1 d1 D2 d2 D3 d3 D4 d4 rs (qs.take j) [] [] (os ++ [(⟨qr, qm, adoB (needOf rs ⟨qr, qm, qe⟩) yes no⟩ : Out)]) ∧ Below w.heap.size w w' := by
 obtain ⟨i0, hi, hz0, hz1, hz2⟩ := info_parts info_Out
 have HR := lh R; have HZ := lh Z; clear R Z
 obtain ⟨⟨ri, rn, rr, rs', rd, ra, rx, rok⟩, hr⟩ := pendB_found hp hq
 obtain ⟨ado, hado⟩ : ∃ ado, adoB (needOf rs ⟨qr, qm, qe⟩) yes no = ado := ⟨_, rfl⟩
 have hne : needOf rs ⟨qr, qm, qe⟩ = rx := by simp only [needOf]; rw [hr]
 have hbd := tallyB_bd ht
 rw [hado]
 rw [hne] at hado
 have hlo : (os ++ [(⟨qr, qm, ado⟩ : Out)]).length = os.length + 1 := by simp
 rw [hlo]
 have HLO := lh hlo; have ho' : ((os.length : Int) == 12) = false := beq_eq_false_iff_ne.2 (by omega)
 have hjl : (qs.take j).length = j := by rw [List.length_take]; omega
 rw [hjl]
 have HJ := lh hj; have HQ := lh hq; have HP := lh hp; have HL := lh hl; have HT := lh ht; have HRR := lh hr; have HAD := lh hado; have HJL := lh hjl; clear hj hq hp hl ht hr hado hne hlo hjl
 go_in
 go_upto_region 1 with fail
 refine lay3 fun wX hq1 hF hT hZ => ?_
 have HB := hq1
 obtain ⟨f0, f1, f2, f3, f4, f5, f6, f7⟩ := hF.cs8
 have t' := hT.cs3; have z' := hZ.cs8; have hz0' := hZ.lt
 go_wp2_with fail
 refine (sDispT_is A0 c0 rs HZ.out.h0 HZ.out.k0 A1 c1 qs HZ.out.h1 HZ.out.k1 j HJ.out qr qm qe HQ.out HP.out HL.out _ (HR.out.r0.below (bth HB bel)) (HR.out.r1.below (bth HB bel))).mono ?_
 rintro e w2 ⟨g1, d1, rfl, O1, hb2⟩
 have hq2 := be wX hb2; replace HB := bth HB hq2; replace hF := hF.to hq2; clear f0 f1 f2 f3 f4 f5 f6 f7
 obtain ⟨f0, f1, f2, f3, f4, f5, f6, f7⟩ := hF.cs8
 replace hT := hT.to hq2; clear t'; have t' := hT.cs3; replace hZ := hZ.to hq2; clear z'; have z' := hZ.cs8
 rw [HJL.out]
 rw [HJL.out] at O1
 go_upto_region 2 with fail
 have O1' := O1.later (bl1 w2 (.cells #[.int .i64 qr, .int .i64 qm, .bool qe] 46)); clear O1; have hq3 : Below w2.heap.size w2 (World.alloc w2 (.cells #[.int .i64 qr, .int .i64 qm, .bool qe] 46)) := bl1 w2 _
 have hQ : Blk (World.alloc w2 (.cells #[.int .i64 qr, .int .i64 qm, .bool qe] 46)) (w2.heap.size) 46 #[.int .i64 qr, .int .i64 qm, .bool qe] := by repeat (first | exact Blk.new _ _ _ | exact Blk.new2 _ _ _ _ | exact Blk.new3 _ _ _ _ _ | exact Blk.new4 _ _ _ _ _ _ | refine Blk.alloc ?_ _)
 generalize World.alloc w2 (.cells #[.int .i64 qr, .int .i64 qm, .bool qe] 46) = wQ at *
 replace HB := bth HB hq3
 obtain ⟨q0, q1, q2⟩ := hQ.cs3
 clear f0 f1 f2 f3 f4 f5 f6 f7; replace hF := hF.to hq3
 obtain ⟨f0, f1, f2, f3, f4, f5, f6, f7⟩ := hF.cs8
 clear t'; replace hT := hT.to hq3; have t' := hT.cs3; clear z'; replace hZ := hZ.to hq3; have z' := hZ.cs8; have O1 := O1'; clear O1'
 go_wp2_with fail
 refine (l11Good_is yes no abst _ HT.out _).mono ?_
 rintro e w4 ⟨rfl, hb4⟩
 have hq4 := be wQ hb4; replace HB := bth HB hq4; replace O1 := O1.later hq4; replace hF := hF.to hq4; clear f0 f1 f2 f3 f4 f5 f6 f7
 obtain ⟨f0, f1, f2, f3, f4, f5, f6, f7⟩ := hF.cs8
 replace hT := hT.to hq4; clear t'; have t' := hT.cs3; replace hZ := hZ.to hq4; clear z'; have z' := hZ.cs8; replace hQ := hQ.to hq4; clear q0 q1 q2
 obtain ⟨q0, q1, q2⟩ := hQ.cs3
 obtain ⟨ix, hix, hrx⟩ := idxB_some HRR.out
 have hxl := (List.getElem?_eq_some_iff.1 hrx).1
 obtain ⟨b0, o0, r0, hA0, hb0, hx0, hc0⟩ := HR.out.r0.at_ HB hxl
 obtain rfl := Option.some.inj (hx0.symm.trans hrx)
 have rn6 := hc0 6 _ rfl; have HIX := lh hix; have HA0 := lh hA0; clear hc0 hx0 hix hrx hA0
 go_upto_region 4 with fail
 clear f0 f1 f2 f3 f4 f5 f6 f7
 obtain ⟨f0, f1, f2, f3, f4, f5, f6, f7⟩ := Blk.cs8K (fun K : Kin w4.heap.size w4 => (hF.below K.below hF.lt))
 clear t'; have t' := Blk.cs3K (fun K : Kin w4.heap.size w4 => (hT.below K.below hT.lt)); clear z'; have z' := Blk.cs8K (fun K : Kin w4.heap.size w4 => (hZ.below K.below hZ.lt)); clear q0 q1 q2
 obtain ⟨q0, q1, q2⟩ := Blk.cs3K (fun K : Kin w4.heap.size w4 => (hQ.below K.below hQ.lt))
 have f0z := fun K => (f0 K).trans (show some (Value.slice A0 rs.length c0) = some (Value.slice (some ⟨b0, o0, none⟩) rs.length c0) by rw [HA0.out])
 clear f0; have f0 := f0z; clear f0z; have HR0K : Hid (∀ K : Kin w4.heap.size w4, Rds 7 Rul.cells K.world (some ⟨b0, o0, none⟩) rs) := lh (fun K => by have h := HR.out.r0.below (bth HB K.below); rw [HA0.out] at h; exact h)
 refine wp_region_kin (by kernel_rfl) (by kernel_rfl) ?_
 repeat (go_big_quiet_step (fail))
 go_big_quiet_step ((go_at_call 65; exact Kin.same _ (l2Find_is (some ⟨b0, o0, none⟩) c0 rs HZ.out.h0 qr ix HIX.out _ (HR0K.out _))))
 repeat (go_big_quiet_step (fail))
 refine wpQuiet_nil ?_
 intro K
 clear rn6; clear f0 f1 f2 f3 f4 f5 f6 f7; clear t'; clear z'; clear q0 q1 q2; have hq5 : Below w4.heap.size w4 K.world := bth bel K.below; replace HB := bth HB hq5; replace O1 := O1.later hq5; replace hF := hF.to hq5
 obtain ⟨f0, f1, f2, f3, f4, f5, f6, f7⟩ := hF.cs8
 replace hT := hT.to hq5; have t' := hT.cs3; replace hZ := hZ.to hq5; have z' := hZ.cs8; replace hQ := hQ.to hq5
 obtain ⟨q0, q1, q2⟩ := hQ.cs3
 have szw := HB.size
 go_wp2_with fail
 refine (l25Pending_is A0 A1 A2 A3 A4 c0 c1 c2 c3 c4 rs qs tu se sp ws sh os HZ.out (some ⟨g1, 0, none⟩) j d1 _ (HR.out.below (bth HB bel))).mono ?_
 rintro e w6 ⟨D0, d0, D4, d4, rfl, O0, O4, hb6⟩
 have hq6 : Below K.world.heap.size K.world w6 := bth bel hb6; replace HB := bth HB hq6; replace O1 := O1.later hq6; replace hF := hF.to hq6; clear f0 f1 f2 f3 f4 f5 f6 f7; replace hT := hT.to hq6; clear t'; have t' := hT.cs3; replace hZ := hZ.to hq6; clear z'; have z' := hZ.cs8; replace hQ := hQ.to hq6; clear q0 q1 q2
 obtain ⟨q0, q1, q2⟩ := hQ.cs3
 have szx := HB.size; have hzx := hZ.lt
 go_upto_region 6 with fail
 have O0' := O0.later (bl1 w6 (.cells #[.slice D0 rs.length d0, .slice (some ⟨g1, 0, none⟩) j d1, .int .i64 tu, .int .i64 se, .int .i64 0, .slice none 0 0, .slice none 0 0, .slice D4 os.length d4] 32)); have O4' := O4.later (bl1 w6 (.cells #[.slice D0 rs.length d0, .slice (some ⟨g1, 0, none⟩) j d1, .int .i64 tu, .int .i64 se, .int .i64 0, .slice none 0 0, .slice none 0 0, .slice D4 os.length d4] 32))
 clear O0 O4; have hq7 : Below w6.heap.size w6 (World.alloc w6 (.cells #[.slice D0 rs.length d0, .slice (some ⟨g1, 0, none⟩) j d1, .int .i64 tu, .int .i64 se, .int .i64 0, .slice none 0 0, .slice none 0 0, .slice D4 os.length d4] 32)) := bl1 w6 _
 have hX : Blk (World.alloc w6 (.cells #[.slice D0 rs.length d0, .slice (some ⟨g1, 0, none⟩) j d1, .int .i64 tu, .int .i64 se, .int .i64 0, .slice none 0 0, .slice none 0 0, .slice D4 os.length d4] 32)) (w6.heap.size) 32 #[.slice D0 rs.length d0, .slice (some ⟨g1, 0, none⟩) j d1, .int .i64 tu, .int .i64 se, .int .i64 0, .slice none 0 0, .slice none 0 0, .slice D4 os.length d4] := by repeat (first | exact Blk.new _ _ _ | exact Blk.new2 _ _ _ _ | exact Blk.new3 _ _ _ _ _ | exact Blk.new4 _ _ _ _ _ _ | refine Blk.alloc ?_ _)
 replace O1 := O1.later hq7
 generalize World.alloc w6 (.cells #[.slice D0 rs.length d0, .slice (some ⟨g1, 0, none⟩) j d1, .int .i64 tu, .int .i64 se, .int .i64 0, .slice none 0 0, .slice none 0 0, .slice D4 os.length d4] 32) = wM at *
 replace HB := bth HB hq7; have x' := hX.cs8; replace hF := hF.to hq7; clear t'; replace hT := hT.to hq7; have t' := hT.cs3; clear z'; replace hZ := hZ.to hq7; have z' := hZ.cs8; clear q0 q1 q2; replace hQ := hQ.to hq7
 obtain ⟨q0, q1, q2⟩ := hQ.cs3
 have O0 := O0'.base (B' := w.heap.size) szw; have O4 := O4'.base (B' := w.heap.size) szw; clear O0' O4'
 obtain ⟨CC8, hCC8⟩ : ∃ X : World → Prop, ∀ V, X V ↔ (Below w.heap.size w V ∧ Blk V (w.heap.size) 32 #[.slice A0 rs.length c0, .slice A1 qs.length c1, .int .i64 tu, .int .i64 se, .int .i64 sp, .slice A2 ws.length c2, .slice A3 sh.length c3, .slice A4 os.length c4] ∧ Blk V (w.heap.size + 1) 34 #[.int .i64 yes, .int .i64 no, .int .i64 abst] ∧ Blk V (w2.heap.size) 46 #[.int .i64 qr, .int .i64 qm, .bool qe] ∧ Blk V (w6.heap.size) 32 #[.slice D0 rs.length d0, .slice (some ⟨g1, 0, none⟩) j d1, .int .i64 tu, .int .i64 se, .int .i64 0, .slice none 0 0, .slice none 0 0, .slice D4 os.length d4]) := ⟨_, fun _ => Iff.rfl⟩
 have HCC8 := lh hCC8; clear hCC8
 haveI : Nonempty (Hld CC8) := ⟨⟨wM, ((HCC8.out _).2 ⟨HB, hF, hT, hQ, hX⟩)⟩⟩
 clear t'; clear z'; clear q0 q1 q2; clear x'; have t' := Blk.cs3K (fun K : Hld CC8 => ((HCC8.out _).1 K.holds).2.2.1)
 obtain ⟨q0, q1, q2⟩ := Blk.cs3K (fun K : Hld CC8 => ((HCC8.out _).1 K.holds).2.2.2.1)
 have x' := Blk.cs8K (fun K : Hld CC8 => ((HCC8.out _).1 K.holds).2.2.2.2)
 refine wp_region_mky (voSq ado ⟨qr, qm, ado⟩) CC8 [([0, 1, 2, 3, 4, 5, 6, 7], 8), ([9], 10)] [] [([], [], 11, true), ([], [12], 13, true)] [] [] (by kernel_rfl) (by kernel_rfl) ((HCC8.out _).2 ⟨HB.drew, hF, hT, hQ, hX⟩) (fun W W' h k => ((HCC8.out _).2 ⟨((HCC8.out _).1 h).1.trans (k.mono ((HCC8.out _).1 h).1.size), ((HCC8.out _).1 h).2.1.below k ((HCC8.out _).1 h).2.1.lt, ((HCC8.out _).1 h).2.2.1.below k ((HCC8.out _).1 h).2.2.1.lt, ((HCC8.out _).1 h).2.2.2.1.below k ((HCC8.out _).1 h).2.2.2.1.lt, ((HCC8.out _).1 h).2.2.2.2.below k ((HCC8.out _).1 h).2.2.2.2.lt⟩)) ?_
 intro σ
 refine wpMk1_cons (some 61) rfl (.bool ado) rfl fun K1 hK1 => ?_
 change wpQuiet _ _ _ _ (_ :: _ :: _ :: _ :: _ :: _ :: _ :: _ :: []) _
 repeat (go_big_quiet_step (fail))
 refine wpQuiet_nil ?_
 refine ⟨fun k hpar => ?_, hK1 _ ?_⟩
 ·change wpList _ _ _ (_ :: []) _ _
  go_wp2_with fail
  refine (l11AdoZ_is rx yes no abst (by omega) ado HAD.out _).mono ?_
  rintro e w9 ⟨rfl, hb9⟩
  go_wp2
  exact Nrm_mk ⟨0, rfl, hb9, trivial⟩
 simp only [Act.put]
 go_simp
 refine wpMk1_cons (some 63) rfl (.slice (some ⟨σ 10, 0, none⟩) 1 1) rfl fun K1 hK1 => ?_
 change wpQuiet _ _ _ _ (_ :: []) _
 repeat (go_big_quiet_step (fail))
 refine wpQuiet_nil ?_
 refine ⟨fun k hpar => ?_, hK1 _ ?_⟩
 ·exact zb139
 simp only [Act.put]
 go_simp
 refine wpMk1_last ?_
 change wpQuiet _ _ _ _ ([]) _
 refine wpQuiet_nil ?_
 intro V0 V W hM hW
 obtain ⟨hgs, hBs⟩ : (V0 10).heap.size = σ 10 ∧ Blk (V 10) (σ 10) 44 #[.int .i64 qr, .int .i64 qm, .bool ado] := hM.post 10 (by simp)
 have hBB := hBs.below (hM.later 10 (by simp)) hBs.lt; clear t'; clear q0 q1 q2; clear x'; have hq9 : Below wM.heap.size wM W := bth bel (hM.whole 10 (by simp)).undrew; replace HB := bth HB hq9; replace O1 := O1.later hq9; replace O0 := O0.later hq9; replace O4 := O4.later hq9; replace hF := hF.to hq9; replace hZ := hZ.to hq9; have z' := hZ.cs8; replace hQ := hQ.to hq9
 obtain ⟨q0, q1, q2⟩ := hQ.cs3
 replace hX := hX.to hq9; have x' := hX.cs8; clear hM hgs hBs hW
 generalize σ 10 = sl at *
 have HRS : Hid (Rds 3 Out.cells W (some ⟨sl, 0, none⟩) [(⟨qr, qm, ado⟩ : Out)]) := lh (fun _ => ⟨sl, 0, rfl, hBB.lt, fun i y hy j u hu => by
  exact zb97⟩)
 have hdx := O4.nb hX; have hdz := O4.nb hZ; have hap0 := O4.apart O0 (by decide); have hap1 := O4.apart O1 (by decide); have hdl := O4.lt; have HO4 := lh O4; have HO1 := lh O1; have HO0 := lh O0; have HX := lh hX; have HZ9 := lh hZ; have HB9 := lh HB; have HDX := lh hdx; have HDZ := lh hdz; have HA0 := lh hap0; have HA1 := lh hap1; have HDL := lh hdl; have szW := HB.size; clear O4 O1 O0 hBB hdx hdz hap0 hap1 hdl
 refine wpMx_cons fun K2 hK2 => ?_
 refine wpQuiet_nil ?_
 refine wpQuiet_nil ?_
 change wpList _ _ _ (_ :: []) _ _
 go_wp2_with ((at_builtin; refine wpList_app1 rfl _ _ 30 rfl _ 44 i0 _ 3 24 Tryz.underlying30 hi hz0 hz1 hz2 rfl (by decide) Out.cells out_len out_one _ os rfl HO4.out ⟨sl, 0, none⟩ 1 ⟨qr, qm, ado⟩ rfl HRS.out (by unfold maxLen; omega) (by omega) (by omega) ?_; intro v9 w9 hO9 hg9 ha9; clear ha9; obtain ⟨Y, yc, rfl, q1, q2, q3⟩ := hO9.form out_len; clear q1 q2 q3; rw [HLO.out] at hO9))
 have hX9 := HX.out.grownN hg9 (fun e => HDX.out _ e.symm rfl); have hZ9 := HZ9.out.grownN hg9 (fun e => HDZ.out _ e.symm rfl); have O0 := HO0.out.kept hg9 (fun k hk e => HA0.out k e.symm hk.symm); have O1 := HO1.out.kept hg9 (fun k hk e => HA1.out k e.symm hk.symm); have O4 := hO9; have HBn : Below w.heap.size w w9 := HB9.out.grown hg9 (by omega) (fun q hq => by have := (HDL.out q hq).1; omega); clear hX hZ hF hT hQ HB q0 q1 q2 x' z' hg9 hO9
 refine Nrm_drop (hK2 _ _ ?_)
 refine wpMx_cons fun K3 hK3 => ?_
 refine wpQuiet_nil ?_
 change wpQuiet _ _ _ _ (_ :: []) _
 haveI : Nonempty (Hld (fun _ => True)) := ⟨⟨w, trivial⟩⟩
 try simp only [Act.put]
 try go_simp
 repeat (go_big_quiet_step (fail))
 refine wpQuiet_nil ?_
 change wpList _ _ _ (_ :: []) _ _
 have HB := HBn; clear HBn; have z' := hZ9.cs8; have x' := hX9.cs8; have neO0 := O0.nb hX9; have neO1 := O1.nb hX9; have neO4 := O4.nb hX9; have fhX97 := hX9.frozen 7
 go_wp2
 clear z' x'
 refine st1 7 fun W10 tW10 => ?_
 replace HB := tW10.hc HB; replace hZ9 := tW10.fa hZ9; replace hX9 : Blk W10 (w6.heap.size) 32 #[.slice D0 rs.length d0, .slice (some ⟨g1, 0, none⟩) j d1, .int .i64 tu, .int .i64 se, .int .i64 0, .slice none 0 0, .slice none 0 0, .slice Y (os.length + 1) yc] := tW10.own hX9; replace O0 := O0.keptS tW10 neO0; replace O1 := O1.keptS tW10 neO1; replace O4 := O4.keptS tW10 neO4; have z' := hZ9.cs8; have x' := hX9.cs8
 clear neO0 neO1 neO4 fhX97
 refine Nrm_drop (hK3 _ _ ?_)
 refine wpMx_last ?_
 refine wpQuiet_nil ?_
 refine wpQuiet_nil ?_
 have neO0 := O0.nb hZ9; have neO1 := O1.nb hZ9; have neO4 := O4.nb hZ9; have fhZ90 := hZ9.frozen 0; have fhZ91 := hZ9.frozen 1; have fhZ92 := hZ9.frozen 2; have fhZ93 := hZ9.frozen 3; have fhZ94 := hZ9.frozen 4; have fhZ95 := hZ9.frozen 5; have fhZ96 := hZ9.frozen 6; have fhZ97 := hZ9.frozen 7
 go_wp2
 clear z' x'
 refine st8 0 fun W11 tW11 => ?_
 replace HB := tW11.hc HB; replace hZ9 := tW11.all8 hZ9; replace O0 := O0.keptS tW11 neO0; replace O1 := O1.keptS tW11 neO1; replace O4 := O4.keptS tW11 neO4; have z' := hZ9.cs8
 refine bodyPost_ret (v := .tuple #[.agg #[.slice D0 rs.length d0, .slice (some ⟨g1, 0, none⟩) j d1, .int .i64 tu, .int .i64 se, .int .i64 0, .slice none 0 0, .slice none 0 0, .slice Y (os.length + 1) yc], .bool true]) (by simp [results, Tryz.results112, go_sem, z']) rfl ?_
 exact zb102
open Go.RowKit Go.G9
def voSp (ri : Int) (rn : ByteArray) (rr : Int) (rs rd ra : Bool) (rx : Int) (ado : Bool) (o : Out) : MkSpec Nat where
 par := fun _ => []
 val := fun n p => match n with
  | 9 => .agg #[.int .i64 ri, .string rn, .int .i64 rr, .bool rs, .bool rd, .bool ra, .int .i64 rx]
  | 15 => .bool ado
  | 17 => .slice (some ⟨p, 0, none⟩) 1 1
  | _ => undef
 post := fun n _ p V0 V => match n with
  | 17 => V0.heap.size = p ∧ Blk V p 44 #[.int .i64 o.rule, .int .i64 o.mover, .bool o.ado]
  | _ => True
theorem iVoteT_is (A0 A1 A2 A3 A4 : Option Addr) (c0 c1 c2 c3 c4 : Nat) (rs : List Rul) (qs : List Que) (tu se sp : Int) (ws : List Int) (sh : List Sha) (os : List Out) (Z : MeeIn A0 A1 A2 A3 A4 c0 c1 c2 c3 c4 rs qs ws sh os) (yes no abst : Int) (j : Nat) (hj : qs.length = j + 1) (qr qm : Int) (qe : Bool) (hq : qs[j]? = some ⟨qr, qm, qe⟩) (hp : pendB rs qs = true) (hl : lstB rs qs = false) (ht : tallyB yes no abst = true) (ho : os.length < 12) (w : World) (R : MeR w A0 A1 A2 A3 A4 rs qs ws sh os) :
 Calls Tryz.prog 163 #[.agg #[.slice A0 rs.length c0, .slice A1 qs.length c1, .int .i64 tu, .int .i64 se, .int .i64 sp, .slice A2 ws.length c2, .slice A3 sh.length c3, .slice A4 os.length c4], .agg #[.int .i64 yes, .int .i64 no, .int .i64 abst]] w fun e w' => ∃ D0 d0 D1 d1 D2 d2 D3 d3 D4 d4, e = .returned (.tuple #[.agg #[.slice D0 rs.length d0, .slice D1 (qs.take j).length d1, .int .i64 tu, .int .i64 se, .int .i64 0, .slice D2 ([] : List Int).length d2, .slice D3 ([] : List Sha).length d3, .slice D4 (os ++ [(⟨qr, qm, adoB (needOf rs ⟨qr, qm, qe⟩) yes no⟩ : Out)]).length d4], .bool true]) ∧ MeO w.heap.size w' D0 d0 D1 d1 D2 d2 D3 d3 D4 d4 rs (qs.take j) [] [] (os ++ [(⟨qr, qm, adoB (needOf rs ⟨qr, qm, qe⟩) yes no⟩ : Out)]) ∧ Below w.heap.size w w' := by
 obtain ⟨i0, hi, hz0, hz1, hz2⟩ := info_parts info_Out
 have HR := lh R; have HZ := lh Z; clear R Z
 obtain ⟨⟨ri, rn, rr, rs', rd, ra, rx, rok⟩, hr⟩ := pendB_found hp hq
 obtain ⟨ado, hado⟩ : ∃ ado, adoB (needOf rs ⟨qr, qm, qe⟩) yes no = ado := ⟨_, rfl⟩
 have hne : needOf rs ⟨qr, qm, qe⟩ = rx := by simp only [needOf]; rw [hr]
 have hbd := tallyB_bd ht
 rw [hado]
 rw [hne] at hado
 have hlo : (os ++ [(⟨qr, qm, ado⟩ : Out)]).length = os.length + 1 := by simp
 rw [hlo]
 have HLO := lh hlo; have ho' : ((os.length : Int) == 12) = false := beq_eq_false_iff_ne.2 (by omega)
 have hjl : (qs.take j).length = j := by rw [List.length_take]; omega
 rw [hjl]
 have HJ := lh hj; have HQ := lh hq; have HP := lh hp; have HL := lh hl; have HT := lh ht; have HRR := lh hr; have HAD := lh hado; have HJL := lh hjl; clear hj hq hp hl ht hr hado hne hlo hjl
 go_in
 go_upto_region 1 with fail
 refine lay3 fun wX hq1 hF hT hZ => ?_
 have HB := hq1; have f' := hF.cs8; have t' := hT.cs3; have z' := hZ.cs8; have hz0' := hZ.lt
 go_wp2_with fail
 refine (iDispT_is A0 c0 rs HZ.out.h0 HZ.out.k0 A1 c1 qs HZ.out.h1 HZ.out.k1 j HJ.out qr qm qe HQ.out HP.out HL.out _ (HR.out.r0.below (bth HB bel)) (HR.out.r1.below (bth HB bel))).mono ?_
 rintro e w2 ⟨g1, d1, rfl, O1, hb2⟩
 have hq2 := be wX hb2; replace HB := bth HB hq2; replace hF := hF.to hq2; clear f'; have f' := hF.cs8; replace hT := hT.to hq2; clear t'; have t' := hT.cs3; replace hZ := hZ.to hq2; clear z'; have z' := hZ.cs8
 rw [HJL.out]
 rw [HJL.out] at O1
 go_upto_region 2 with fail
 have O1' := O1.later (bl1 w2 (.cells #[.int .i64 qr, .int .i64 qm, .bool qe] 46)); clear O1; have hq3 : Below w2.heap.size w2 (World.alloc w2 (.cells #[.int .i64 qr, .int .i64 qm, .bool qe] 46)) := bl1 w2 _
 have hQ : Blk (World.alloc w2 (.cells #[.int .i64 qr, .int .i64 qm, .bool qe] 46)) (w2.heap.size) 46 #[.int .i64 qr, .int .i64 qm, .bool qe] := by repeat (first | exact Blk.new _ _ _ | exact Blk.new2 _ _ _ _ | exact Blk.new3 _ _ _ _ _ | exact Blk.new4 _ _ _ _ _ _ | refine Blk.alloc ?_ _)
 generalize World.alloc w2 (.cells #[.int .i64 qr, .int .i64 qm, .bool qe] 46) = wQ at *
 replace HB := bth HB hq3
 obtain ⟨q0, q1, q2⟩ := hQ.cs3
 clear f'; replace hF := hF.to hq3; have f' := hF.cs8; clear t'; replace hT := hT.to hq3; have t' := hT.cs3; clear z'; replace hZ := hZ.to hq3; have z' := hZ.cs8; have O1 := O1'; clear O1'
 go_wp2_with fail
 refine (isValidTally_is yes no abst _ HT.out _).mono ?_
 rintro e w4 ⟨rfl, hb4⟩
 have hq4 := be wQ hb4; replace HB := bth HB hq4; replace O1 := O1.later hq4; replace hF := hF.to hq4; clear f'; have f' := hF.cs8; replace hT := hT.to hq4; clear t'; have t' := hT.cs3; replace hZ := hZ.to hq4; clear z'; have z' := hZ.cs8; replace hQ := hQ.to hq4; clear q0 q1 q2
 obtain ⟨q0, q1, q2⟩ := hQ.cs3
 have szw := HB.size
 go_wp2_with fail
 refine (withPending_is A0 A1 A2 A3 A4 c0 c1 c2 c3 c4 rs qs tu se sp ws sh os HZ.out (some ⟨g1, 0, none⟩) j d1 _ (HR.out.below (bth HB bel))).mono ?_
 rintro e w5 ⟨D0, d0, D4, d4, rfl, O0, O4, hb5⟩
 have hq5 := be w4 hb5; replace HB := bth HB hq5; replace O1 := O1.later hq5; replace hF := hF.to hq5; clear f'; have f' := hF.cs8; replace hT := hT.to hq5; clear t'; have t' := hT.cs3; replace hZ := hZ.to hq5; clear z'; have z' := hZ.cs8; replace hQ := hQ.to hq5; clear q0 q1 q2
 obtain ⟨q0, q1, q2⟩ := hQ.cs3
 have szx := HB.size; have hzx := hZ.lt
 go_upto_region 5 with fail
 have O0' := O0.later (bl1 w5 (.cells #[.slice D0 rs.length d0, .slice (some ⟨g1, 0, none⟩) j d1, .int .i64 tu, .int .i64 se, .int .i64 0, .slice none 0 0, .slice none 0 0, .slice D4 os.length d4] 32)); have O4' := O4.later (bl1 w5 (.cells #[.slice D0 rs.length d0, .slice (some ⟨g1, 0, none⟩) j d1, .int .i64 tu, .int .i64 se, .int .i64 0, .slice none 0 0, .slice none 0 0, .slice D4 os.length d4] 32))
 clear O0 O4; have hq6 : Below w5.heap.size w5 (World.alloc w5 (.cells #[.slice D0 rs.length d0, .slice (some ⟨g1, 0, none⟩) j d1, .int .i64 tu, .int .i64 se, .int .i64 0, .slice none 0 0, .slice none 0 0, .slice D4 os.length d4] 32)) := bl1 w5 _
 have hX : Blk (World.alloc w5 (.cells #[.slice D0 rs.length d0, .slice (some ⟨g1, 0, none⟩) j d1, .int .i64 tu, .int .i64 se, .int .i64 0, .slice none 0 0, .slice none 0 0, .slice D4 os.length d4] 32)) (w5.heap.size) 32 #[.slice D0 rs.length d0, .slice (some ⟨g1, 0, none⟩) j d1, .int .i64 tu, .int .i64 se, .int .i64 0, .slice none 0 0, .slice none 0 0, .slice D4 os.length d4] := by repeat (first | exact Blk.new _ _ _ | exact Blk.new2 _ _ _ _ | exact Blk.new3 _ _ _ _ _ | exact Blk.new4 _ _ _ _ _ _ | refine Blk.alloc ?_ _)
 replace O1 := O1.later hq6
 generalize World.alloc w5 (.cells #[.slice D0 rs.length d0, .slice (some ⟨g1, 0, none⟩) j d1, .int .i64 tu, .int .i64 se, .int .i64 0, .slice none 0 0, .slice none 0 0, .slice D4 os.length d4] 32) = wM at *
 replace HB := bth HB hq6; have x' := hX.cs8; clear f'; replace hF := hF.to hq6; have f' := hF.cs8; clear t'; replace hT := hT.to hq6; have t' := hT.cs3; clear z'; replace hZ := hZ.to hq6; have z' := hZ.cs8; clear q0 q1 q2; replace hQ := hQ.to hq6
 obtain ⟨q0, q1, q2⟩ := hQ.cs3
 have O0 := O0'.base (B' := w.heap.size) szw; have O4 := O4'.base (B' := w.heap.size) szw; clear O0' O4'
 obtain ⟨CC7, hCC7⟩ : ∃ X : World → Prop, ∀ V, X V ↔ (Below w.heap.size w V ∧ Blk V (w.heap.size) 32 #[.slice A0 rs.length c0, .slice A1 qs.length c1, .int .i64 tu, .int .i64 se, .int .i64 sp, .slice A2 ws.length c2, .slice A3 sh.length c3, .slice A4 os.length c4] ∧ Blk V (w.heap.size + 1) 34 #[.int .i64 yes, .int .i64 no, .int .i64 abst] ∧ Blk V (w2.heap.size) 46 #[.int .i64 qr, .int .i64 qm, .bool qe] ∧ Blk V (w5.heap.size) 32 #[.slice D0 rs.length d0, .slice (some ⟨g1, 0, none⟩) j d1, .int .i64 tu, .int .i64 se, .int .i64 0, .slice none 0 0, .slice none 0 0, .slice D4 os.length d4]) := ⟨_, fun _ => Iff.rfl⟩
 have HCC7 := lh hCC7; clear hCC7
 haveI : Nonempty (Hld CC7) := ⟨⟨wM, ((HCC7.out _).2 ⟨HB, hF, hT, hQ, hX⟩)⟩⟩
 clear f'; clear t'; clear z'; clear q0 q1 q2; clear x'; have f' := Blk.cs8K (fun K : Hld CC7 => ((HCC7.out _).1 K.holds).2.1); have t' := Blk.cs3K (fun K : Hld CC7 => ((HCC7.out _).1 K.holds).2.2.1)
 obtain ⟨q0, q1, q2⟩ := Blk.cs3K (fun K : Hld CC7 => ((HCC7.out _).1 K.holds).2.2.2.1)
 have x' := Blk.cs8K (fun K : Hld CC7 => ((HCC7.out _).1 K.holds).2.2.2.2)
 have hf := fun W => (show (Instr.field 48 (.agg #[.int .i64 ri, .string rn, .int .i64 rr, .bool rs', .bool rd, .bool ra, .int .i64 rx]) 6).run Tryz.prog W = .ok (.int .i64 rx) W by kernel_rfl)
 refine wp_region_mky (voSp ri rn rr rs' rd ra rx ado ⟨qr, qm, ado⟩) CC7 [([0, 1, 2, 3, 4, 5, 6, 7, 8], 9), ([10, 11, 12, 13, 14], 15), ([16], 17)] [] [([], [], 18, true), ([], [19], 20, true)] [] [] (by kernel_rfl) (by kernel_rfl) ((HCC7.out _).2 ⟨HB.drew, hF, hT, hQ, hX⟩) (fun W W' h k => ((HCC7.out _).2 ⟨((HCC7.out _).1 h).1.trans (k.mono ((HCC7.out _).1 h).1.size), ((HCC7.out _).1 h).2.1.below k ((HCC7.out _).1 h).2.1.lt, ((HCC7.out _).1 h).2.2.1.below k ((HCC7.out _).1 h).2.2.1.lt, ((HCC7.out _).1 h).2.2.2.1.below k ((HCC7.out _).1 h).2.2.2.1.lt, ((HCC7.out _).1 h).2.2.2.2.below k ((HCC7.out _).1 h).2.2.2.2.lt⟩)) ?_
 intro σ
 refine wpMk1_cons (some 45) rfl (.agg #[.int .i64 ri, .string rn, .int .i64 rr, .bool rs', .bool rd, .bool ra, .int .i64 rx]) rfl fun K1 hK1 => ?_
 change wpQuiet _ _ _ _ (_ :: _ :: _ :: _ :: _ :: _ :: _ :: _ :: _ :: []) _
 repeat (go_big_quiet_step (fail))
 refine wpQuiet_nil ?_
 refine ⟨fun k hpar => ?_, hK1 _ ?_⟩
 ·change wpList _ _ _ (_ :: []) _ _
  go_wp2_with fail
  refine (ruleOf_is A0 c0 rs HZ.out.h0 ⟨qr, qm, qe⟩ ⟨ri, rn, rr, rs', rd, ra, rx, rok⟩ HRR.out _ (HR.out.r0.below ((HCC7.out _).1 k.holds).1)).mono ?_
  rintro e w9 ⟨rfl, hb9⟩
  go_wp2
  exact Nrm_mk ⟨0, rfl, hb9, trivial⟩
 simp only [Act.put]
 go_simp
 refine wpMk1_cons (some 51) rfl (.bool ado) rfl fun K1 hK1 => ?_
 change wpQuiet _ _ _ _ (_ :: _ :: _ :: _ :: _ :: []) _
 repeat (go_big_quiet_step (fail))
 refine wpQuiet_nil ?_
 refine ⟨fun k hpar => ?_, hK1 _ ?_⟩
 ·change wpList _ _ _ (_ :: []) _ _
  go_wp2_with fail
  refine (isAdopted_is rx yes no (by omega) (by omega) (by omega) (by omega) ado HAD.out _).mono ?_
  rintro e w9 ⟨rfl, hb9⟩
  go_wp2
  first | exact Nrm_mk ⟨0, rfl, hb9, trivial⟩ | (subst hb9; exact Nrm_mk ⟨0, rfl, Below.refl _ _, trivial⟩)
 simp only [Act.put]
 go_simp
 refine wpMk1_cons (some 53) rfl (.slice (some ⟨σ 17, 0, none⟩) 1 1) rfl fun K1 hK1 => ?_
 change wpQuiet _ _ _ _ (_ :: []) _
 repeat (go_big_quiet_step (fail))
 refine wpQuiet_nil ?_
 refine ⟨fun k hpar => ?_, hK1 _ ?_⟩
 ·exact zb139
 simp only [Act.put]
 go_simp
 refine wpMk1_last ?_
 change wpQuiet _ _ _ _ ([]) _
 refine wpQuiet_nil ?_
 intro V0 V W hM hW
 obtain ⟨hgs, hBs⟩ : (V0 17).heap.size = σ 17 ∧ Blk (V 17) (σ 17) 44 #[.int .i64 qr, .int .i64 qm, .bool ado] := hM.post 17 (by simp)
 have hBB := hBs.below (hM.later 17 (by simp)) hBs.lt; clear f'; clear t'; clear q0 q1 q2; clear x'; have hq8 : Below wM.heap.size wM W := bth bel (hM.whole 17 (by simp)).undrew; replace HB := bth HB hq8; replace O1 := O1.later hq8; replace O0 := O0.later hq8; replace O4 := O4.later hq8; replace hZ := hZ.to hq8; have z' := hZ.cs8; replace hQ := hQ.to hq8
 obtain ⟨q0, q1, q2⟩ := hQ.cs3
 replace hX := hX.to hq8; have x' := hX.cs8; clear hM hgs hBs hW hf
 generalize σ 17 = sl at *
 have HRS : Hid (Rds 3 Out.cells W (some ⟨sl, 0, none⟩) [(⟨qr, qm, ado⟩ : Out)]) := lh (fun _ => ⟨sl, 0, rfl, hBB.lt, fun i y hy j u hu => by
  exact zb97⟩)
 have hdx := O4.nb hX; have hdz := O4.nb hZ; have hap0 := O4.apart O0 (by decide); have hap1 := O4.apart O1 (by decide); have hdl := O4.lt; have HO4 := lh O4; have HO1 := lh O1; have HO0 := lh O0; have HX := lh hX; have HZ9 := lh hZ; have HB9 := lh HB; have HDX := lh hdx; have HDZ := lh hdz; have HA0 := lh hap0; have HA1 := lh hap1; have HDL := lh hdl; have szW := HB.size; clear O4 O1 O0 hBB hdx hdz hap0 hap1 hdl
 refine wpMx_cons fun K2 hK2 => ?_
 refine wpQuiet_nil ?_
 refine wpQuiet_nil ?_
 change wpList _ _ _ (_ :: []) _ _
 go_wp2_with ((at_builtin; refine wpList_app1 rfl _ _ 30 rfl _ 44 i0 _ 3 24 Tryz.underlying30 hi hz0 hz1 hz2 rfl (by decide) Out.cells out_len out_one _ os rfl HO4.out ⟨sl, 0, none⟩ 1 ⟨qr, qm, ado⟩ rfl HRS.out (by unfold maxLen; omega) (by omega) (by omega) ?_; intro v9 w9 hO9 hg9 ha9; clear ha9; obtain ⟨Y, yc, rfl, q1, q2, q3⟩ := hO9.form out_len; clear q1 q2 q3; rw [HLO.out] at hO9))
 have hX9 := HX.out.grownN hg9 (fun e => HDX.out _ e.symm rfl); have hZ9 := HZ9.out.grownN hg9 (fun e => HDZ.out _ e.symm rfl); have O0 := HO0.out.kept hg9 (fun k hk e => HA0.out k e.symm hk.symm); have O1 := HO1.out.kept hg9 (fun k hk e => HA1.out k e.symm hk.symm); have O4 := hO9; have HBn : Below w.heap.size w w9 := HB9.out.grown hg9 (by omega) (fun q hq => by have := (HDL.out q hq).1; omega); clear hX hZ hF hT hQ HB q0 q1 q2 x' z' hg9 hO9
 refine Nrm_drop (hK2 _ _ ?_)
 refine wpMx_cons fun K3 hK3 => ?_
 refine wpQuiet_nil ?_
 change wpQuiet _ _ _ _ (_ :: []) _
 haveI : Nonempty (Hld (fun _ => True)) := ⟨⟨w, trivial⟩⟩
 try simp only [Act.put]
 try go_simp
 repeat (go_big_quiet_step (fail))
 refine wpQuiet_nil ?_
 change wpList _ _ _ (_ :: []) _ _
 have HB := HBn; clear HBn; have z' := hZ9.cs8; have x' := hX9.cs8; have neO0 := O0.nb hX9; have neO1 := O1.nb hX9; have neO4 := O4.nb hX9; have fhX97 := hX9.frozen 7
 go_wp2
 clear z' x'
 refine st1 7 fun W10 tW10 => ?_
 replace HB := tW10.hc HB; replace hZ9 := tW10.fa hZ9; replace hX9 : Blk W10 (w5.heap.size) 32 #[.slice D0 rs.length d0, .slice (some ⟨g1, 0, none⟩) j d1, .int .i64 tu, .int .i64 se, .int .i64 0, .slice none 0 0, .slice none 0 0, .slice Y (os.length + 1) yc] := tW10.own hX9; replace O0 := O0.keptS tW10 neO0; replace O1 := O1.keptS tW10 neO1; replace O4 := O4.keptS tW10 neO4; have z' := hZ9.cs8; have x' := hX9.cs8
 clear neO0 neO1 neO4 fhX97
 refine Nrm_drop (hK3 _ _ ?_)
 refine wpMx_last ?_
 refine wpQuiet_nil ?_
 refine wpQuiet_nil ?_
 have neO0 := O0.nb hZ9; have neO1 := O1.nb hZ9; have neO4 := O4.nb hZ9; have fhZ90 := hZ9.frozen 0; have fhZ91 := hZ9.frozen 1; have fhZ92 := hZ9.frozen 2; have fhZ93 := hZ9.frozen 3; have fhZ94 := hZ9.frozen 4; have fhZ95 := hZ9.frozen 5; have fhZ96 := hZ9.frozen 6; have fhZ97 := hZ9.frozen 7
 go_wp2
 clear z' x'
 refine st8 0 fun W11 tW11 => ?_
 replace HB := tW11.hc HB; replace hZ9 := tW11.all8 hZ9; replace O0 := O0.keptS tW11 neO0; replace O1 := O1.keptS tW11 neO1; replace O4 := O4.keptS tW11 neO4; have z' := hZ9.cs8
 refine bodyPost_ret (v := .tuple #[.agg #[.slice D0 rs.length d0, .slice (some ⟨g1, 0, none⟩) j d1, .int .i64 tu, .int .i64 se, .int .i64 0, .slice none 0 0, .slice none 0 0, .slice Y (os.length + 1) yc], .bool true]) (by simp [results, Tryz.results163, go_sem, z']) rfl ?_
 exact zb102
open Go.RowKit Go.G9
def ARes (o : Option Mee) (w : World) (e : Ending) (w' : World) : Prop := match o with
 | some n => ∃ D0 d0 D1 d1 D2 d2 D3 d3 D4 d4, e = .returned (.tuple #[.agg #[.slice D0 n.rules.length d0, .slice D1 n.pend.length d1, .int .i64 n.turns, .int .i64 n.secs, .int .i64 n.spk, .slice D2 n.wait.length d2, .slice D3 n.shares.length d3, .slice D4 n.outs.length d4], .bool true]) ∧ MeO w.heap.size w' D0 d0 D1 d1 D2 d2 D3 d3 D4 d4 n.rules n.pend n.wait n.shares n.outs ∧ Below w.heap.size w w'
 | none => e = .returned (.tuple #[.agg #[.slice none 0 0, .slice none 0 0, .int .i64 0, .int .i64 0, .int .i64 0, .slice none 0 0, .slice none 0 0, .slice none 0 0], .bool false]) ∧ Below w.heap.size w w'
theorem iMoveQY_is (A0 : Option Addr) (c0 : Nat) (rs : List Rul) (h0 : rs.length ≤ 1048576) (kc : rs.length ≤ c0) (A1 : Option Addr) (c1 : Nat) (qs : List Que) (h1 : qs.length ≤ 1048576) (hA : A1 = none → qs = [] ∧ c1 = 0) (id mem : Int) (ps : List Que) (hv : mvQ rs qs id mem = some ps) (w : World) (R0 : Rds 7 Rul.cells w A0 rs) (R1 : Rds 3 Que.cells w A1 qs) : Calls Tryz.prog 164 #[.slice A0 rs.length c0, .slice A1 qs.length c1, .int .i64 id, .int .i64 mem] w fun e w' => ∃ A c, e = .returned (.tuple #[.slice A ps.length c, .bool true]) ∧ OwnV w.heap.size 46 3 Que.cells w' (.slice A ps.length c) ps ∧ Below w.heap.size w w' := by
 have h := iMoveQ_is A0 c0 rs h0 kc A1 c1 qs h1 hA id mem w R0 R1
 rw [hv] at h
 exact h
theorem iMoveQN_is (A0 : Option Addr) (c0 : Nat) (rs : List Rul) (h0 : rs.length ≤ 1048576) (kc : rs.length ≤ c0) (A1 : Option Addr) (c1 : Nat) (qs : List Que) (h1 : qs.length ≤ 1048576) (hA : A1 = none → qs = [] ∧ c1 = 0) (id mem : Int) (hv : mvQ rs qs id mem = none) (w : World) (R0 : Rds 7 Rul.cells w A0 rs) (R1 : Rds 3 Que.cells w A1 qs) : Calls Tryz.prog 164 #[.slice A0 rs.length c0, .slice A1 qs.length c1, .int .i64 id, .int .i64 mem] w fun e w' => ∃ A c, e = .returned (.tuple #[.slice A 0 c, .bool false]) ∧ Below w.heap.size w w' := by
 have h := iMoveQ_is A0 c0 rs h0 kc A1 c1 qs h1 hA id mem w R0 R1
 rw [hv] at h
 exact h.mono fun e w' ⟨A, c, he, _, hb⟩ => ⟨A, c, he, hb⟩
theorem sMoveQY_is (A0 : Option Addr) (c0 : Nat) (rs : List Rul) (h0 : rs.length ≤ 1048576) (A1 : Option Addr) (c1 : Nat) (qs : List Que) (h1 : qs.length ≤ 1048576) (hA : A1 = none → qs = [] ∧ c1 = 0) (id mem : Int) (ps : List Que) (hv : mvQ rs qs id mem = some ps) (w : World) (R0 : Rds 7 Rul.cells w A0 rs) (R1 : Rds 3 Que.cells w A1 qs) : Calls Tryz.prog 110 #[.slice A0 rs.length c0, .slice A1 qs.length c1, .int .i64 id, .int .i64 mem] w fun e w' => ∃ A c, e = .returned (.tuple #[.slice A ps.length c, .bool true]) ∧ OwnV w.heap.size 46 3 Que.cells w' (.slice A ps.length c) ps ∧ Below w.heap.size w w' := by
 have h := sMoveQ_is A0 c0 rs h0 A1 c1 qs h1 hA id mem w R0 R1
 rw [hv] at h
 exact h
theorem sMoveQN_is (A0 : Option Addr) (c0 : Nat) (rs : List Rul) (h0 : rs.length ≤ 1048576) (A1 : Option Addr) (c1 : Nat) (qs : List Que) (h1 : qs.length ≤ 1048576) (hA : A1 = none → qs = [] ∧ c1 = 0) (id mem : Int) (hv : mvQ rs qs id mem = none) (w : World) (R0 : Rds 7 Rul.cells w A0 rs) (R1 : Rds 3 Que.cells w A1 qs) : Calls Tryz.prog 110 #[.slice A0 rs.length c0, .slice A1 qs.length c1, .int .i64 id, .int .i64 mem] w fun e w' => ∃ A c, e = .returned (.tuple #[.slice A 0 c, .bool false]) ∧ Below w.heap.size w w' := by
 have h := sMoveQ_is A0 c0 rs h0 A1 c1 qs h1 hA id mem w R0 R1
 rw [hv] at h
 exact h.mono fun e w' ⟨A, c, he, _, hb⟩ => ⟨A, c, he, hb⟩
theorem iWithdrawQY_is (A0 : Option Addr) (c0 : Nat) (rs : List Rul) (h0 : rs.length ≤ 1048576) (kc : rs.length ≤ c0) (A1 : Option Addr) (c1 : Nat) (qs : List Que) (h1 : qs.length ≤ 1048576) (kq : qs.length ≤ c1) (mem : Int) (ps : List Que) (hv : wdQ rs qs mem = some ps) (w : World) (R0 : Rds 7 Rul.cells w A0 rs) (R1 : Rds 3 Que.cells w A1 qs) : Calls Tryz.prog 165 #[.slice A0 rs.length c0, .slice A1 qs.length c1, .int .i64 mem] w fun e w' => ∃ A c, e = .returned (.tuple #[.slice A ps.length c, .bool true]) ∧ OwnV w.heap.size 46 3 Que.cells w' (.slice A ps.length c) ps ∧ Below w.heap.size w w' := by
 have h := iWithdrawQ_is A0 c0 rs h0 kc A1 c1 qs h1 kq mem w R0 R1
 rw [hv] at h
 exact h
theorem iWithdrawQN_is (A0 : Option Addr) (c0 : Nat) (rs : List Rul) (h0 : rs.length ≤ 1048576) (kc : rs.length ≤ c0) (A1 : Option Addr) (c1 : Nat) (qs : List Que) (h1 : qs.length ≤ 1048576) (kq : qs.length ≤ c1) (mem : Int) (hv : wdQ rs qs mem = none) (w : World) (R0 : Rds 7 Rul.cells w A0 rs) (R1 : Rds 3 Que.cells w A1 qs) : Calls Tryz.prog 165 #[.slice A0 rs.length c0, .slice A1 qs.length c1, .int .i64 mem] w fun e w' => ∃ A c, e = .returned (.tuple #[.slice A 0 c, .bool false]) ∧ Below w.heap.size w w' := by
 have h := iWithdrawQ_is A0 c0 rs h0 kc A1 c1 qs h1 kq mem w R0 R1
 rw [hv] at h
 exact h.mono fun e w' ⟨A, c, he, _, hb⟩ => ⟨A, c, he, hb⟩
theorem sWithdrawQY_is (A0 : Option Addr) (c0 : Nat) (rs : List Rul) (h0 : rs.length ≤ 1048576) (A1 : Option Addr) (c1 : Nat) (qs : List Que) (h1 : qs.length ≤ 1048576) (kq : qs.length ≤ c1) (mem : Int) (ps : List Que) (hv : wdQ rs qs mem = some ps) (w : World) (R0 : Rds 7 Rul.cells w A0 rs) (R1 : Rds 3 Que.cells w A1 qs) : Calls Tryz.prog 113 #[.slice A0 rs.length c0, .slice A1 qs.length c1, .int .i64 mem] w fun e w' => ∃ A c, e = .returned (.tuple #[.slice A ps.length c, .bool true]) ∧ OwnV w.heap.size 46 3 Que.cells w' (.slice A ps.length c) ps ∧ Below w.heap.size w w' := by
 have h := sWithdrawQ_is A0 c0 rs h0 A1 c1 qs h1 kq mem w R0 R1
 rw [hv] at h
 exact h
theorem sWithdrawQN_is (A0 : Option Addr) (c0 : Nat) (rs : List Rul) (h0 : rs.length ≤ 1048576) (A1 : Option Addr) (c1 : Nat) (qs : List Que) (h1 : qs.length ≤ 1048576) (kq : qs.length ≤ c1) (mem : Int) (hv : wdQ rs qs mem = none) (w : World) (R0 : Rds 7 Rul.cells w A0 rs) (R1 : Rds 3 Que.cells w A1 qs) : Calls Tryz.prog 113 #[.slice A0 rs.length c0, .slice A1 qs.length c1, .int .i64 mem] w fun e w' => ∃ A c, e = .returned (.tuple #[.slice A 0 c, .bool false]) ∧ Below w.heap.size w w' := by
 have h := sWithdrawQ_is A0 c0 rs h0 A1 c1 qs h1 kq mem w R0 R1
 rw [hv] at h
 exact h.mono fun e w' ⟨A, c, he, _, hb⟩ => ⟨A, c, he, hb⟩
theorem iSecondQY_is (A0 : Option Addr) (c0 : Nat) (rs : List Rul) (h0 : rs.length ≤ 1048576) (kc : rs.length ≤ c0) (A1 : Option Addr) (c1 : Nat) (qs : List Que) (h1 : qs.length ≤ 1048576) (hA : A1 = none → qs = [] ∧ c1 = 0) (mem : Int) (ps : List Que) (hv : sdQ rs qs mem = some ps) (w : World) (R0 : Rds 7 Rul.cells w A0 rs) (R1 : Rds 3 Que.cells w A1 qs) : Calls Tryz.prog 108 #[.slice A0 rs.length c0, .slice A1 qs.length c1, .int .i64 mem] w fun e w' => ∃ A c, e = .returned (.tuple #[.slice A ps.length c, .bool true]) ∧ OwnV w.heap.size 46 3 Que.cells w' (.slice A ps.length c) ps ∧ Below w.heap.size w w' := by
 have h := iSecondQ_is A0 c0 rs h0 kc A1 c1 qs h1 hA mem w R0 R1
 rw [hv] at h
 exact h
theorem iSecondQN_is (A0 : Option Addr) (c0 : Nat) (rs : List Rul) (h0 : rs.length ≤ 1048576) (kc : rs.length ≤ c0) (A1 : Option Addr) (c1 : Nat) (qs : List Que) (h1 : qs.length ≤ 1048576) (hA : A1 = none → qs = [] ∧ c1 = 0) (mem : Int) (hv : sdQ rs qs mem = none) (w : World) (R0 : Rds 7 Rul.cells w A0 rs) (R1 : Rds 3 Que.cells w A1 qs) : Calls Tryz.prog 108 #[.slice A0 rs.length c0, .slice A1 qs.length c1, .int .i64 mem] w fun e w' => ∃ A c, e = .returned (.tuple #[.slice A 0 c, .bool false]) ∧ Below w.heap.size w w' := by
 have h := iSecondQ_is A0 c0 rs h0 kc A1 c1 qs h1 hA mem w R0 R1
 rw [hv] at h
 exact h.mono fun e w' ⟨A, c, he, _, hb⟩ => ⟨A, c, he, hb⟩
theorem sSecondQY_is (A0 : Option Addr) (c0 : Nat) (rs : List Rul) (h0 : rs.length ≤ 1048576) (A1 : Option Addr) (c1 : Nat) (qs : List Que) (h1 : qs.length ≤ 1048576) (hA : A1 = none → qs = [] ∧ c1 = 0) (mem : Int) (ps : List Que) (hv : sdQ rs qs mem = some ps) (w : World) (R0 : Rds 7 Rul.cells w A0 rs) (R1 : Rds 3 Que.cells w A1 qs) : Calls Tryz.prog 111 #[.slice A0 rs.length c0, .slice A1 qs.length c1, .int .i64 mem] w fun e w' => ∃ A c, e = .returned (.tuple #[.slice A ps.length c, .bool true]) ∧ OwnV w.heap.size 46 3 Que.cells w' (.slice A ps.length c) ps ∧ Below w.heap.size w w' := by
 have h := sSecondQ_is A0 c0 rs h0 A1 c1 qs h1 hA mem w R0 R1
 rw [hv] at h
 exact h
theorem sSecondQN_is (A0 : Option Addr) (c0 : Nat) (rs : List Rul) (h0 : rs.length ≤ 1048576) (A1 : Option Addr) (c1 : Nat) (qs : List Que) (h1 : qs.length ≤ 1048576) (hA : A1 = none → qs = [] ∧ c1 = 0) (mem : Int) (hv : sdQ rs qs mem = none) (w : World) (R0 : Rds 7 Rul.cells w A0 rs) (R1 : Rds 3 Que.cells w A1 qs) : Calls Tryz.prog 111 #[.slice A0 rs.length c0, .slice A1 qs.length c1, .int .i64 mem] w fun e w' => ∃ A c, e = .returned (.tuple #[.slice A 0 c, .bool false]) ∧ Below w.heap.size w w' := by
 have h := sSecondQ_is A0 c0 rs h0 A1 c1 qs h1 hA mem w R0 R1
 rw [hv] at h
 exact h.mono fun e w' ⟨A, c, he, _, hb⟩ => ⟨A, c, he, hb⟩
theorem iDropQY_is (A0 : Option Addr) (c0 : Nat) (rs : List Rul) (h0 : rs.length ≤ 1048576) (kc : rs.length ≤ c0) (A1 : Option Addr) (c1 : Nat) (qs : List Que) (h1 : qs.length ≤ 1048576) (hA : A1 = none → qs = [] ∧ c1 = 0)  (ps : List Que) (hv : dpQ rs qs = some ps) (w : World) (R0 : Rds 7 Rul.cells w A0 rs) (R1 : Rds 3 Que.cells w A1 qs) : Calls Tryz.prog 166 #[.slice A0 rs.length c0, .slice A1 qs.length c1] w fun e w' => ∃ A c, e = .returned (.tuple #[.slice A ps.length c, .bool true]) ∧ OwnV w.heap.size 46 3 Que.cells w' (.slice A ps.length c) ps ∧ Below w.heap.size w w' := by
 have h := iDropQ_is A0 c0 rs h0 kc A1 c1 qs h1 hA w R0 R1
 rw [hv] at h
 exact h
theorem sDropQY_is (A0 : Option Addr) (c0 : Nat) (rs : List Rul) (h0 : rs.length ≤ 1048576) (A1 : Option Addr) (c1 : Nat) (qs : List Que) (h1 : qs.length ≤ 1048576) (hA : A1 = none → qs = [] ∧ c1 = 0) (kq : qs.length ≤ c1)  (ps : List Que) (hv : dpQ rs qs = some ps) (w : World) (R0 : Rds 7 Rul.cells w A0 rs) (R1 : Rds 3 Que.cells w A1 qs) : Calls Tryz.prog 114 #[.slice A0 rs.length c0, .slice A1 qs.length c1] w fun e w' => ∃ A c, e = .returned (.tuple #[.slice A ps.length c, .bool true]) ∧ OwnV w.heap.size 46 3 Que.cells w' (.slice A ps.length c) ps ∧ Below w.heap.size w w' := by
 have h := sDropQ_is A0 c0 rs h0 A1 c1 qs h1 hA kq w R0 R1
 rw [hv] at h
 exact h
theorem iVoteY_is (A0 A1 A2 A3 A4 : Option Addr) (c0 c1 c2 c3 c4 : Nat) (rs : List Rul) (qs : List Que) (tu se sp : Int) (ws : List Int) (sh : List Sha) (os : List Out) (Z : MeeIn A0 A1 A2 A3 A4 c0 c1 c2 c3 c4 rs qs ws sh os) (mem val : Int) (yes no abst : Int) (n : Mee) (hv : votA ⟨rs, qs, tu, se, sp, ws, sh, os⟩ ⟨7, mem, val, yes, no, abst⟩ = some n) (hp : pendB rs qs = true) (ho : os.length ≤ 12) (w : World) (R : MeR w A0 A1 A2 A3 A4 rs qs ws sh os) :
 Calls Tryz.prog 163 #[.agg #[.slice A0 rs.length c0, .slice A1 qs.length c1, .int .i64 tu, .int .i64 se, .int .i64 sp, .slice A2 ws.length c2, .slice A3 sh.length c3, .slice A4 os.length c4], .agg #[.int .i64 yes, .int .i64 no, .int .i64 abst]] w fun e w' => ∃ D0 d0 D1 d1 D2 d2 D3 d3 D4 d4, e = .returned (.tuple #[.agg #[.slice D0 n.rules.length d0, .slice D1 n.pend.length d1, .int .i64 n.turns, .int .i64 n.secs, .int .i64 n.spk, .slice D2 n.wait.length d2, .slice D3 n.shares.length d3, .slice D4 n.outs.length d4], .bool true]) ∧ MeO w.heap.size w' D0 d0 D1 d1 D2 d2 D3 d3 D4 d4 n.rules n.pend n.wait n.shares n.outs ∧ Below w.heap.size w w' := by
 obtain ⟨ps, ⟨qr, qm, qe⟩, hd, ht, h12, rfl⟩ := votA_parts hv
 dsimp only at hd ht h12
 unfold dsQ at hd
 split at hd
 ·rename_i q hq
  split at hd
  ·rename_i hc
   cases hd
   simp only [Bool.and_eq_true, Bool.not_eq_true'] at hc
   have hl := (List.getElem?_eq_some_iff.1 hq).1
   exact iVoteT_is A0 A1 A2 A3 A4 c0 c1 c2 c3 c4 rs qs tu se sp ws sh os Z yes no abst (qs.length - 1) (by omega) qr qm qe hq hc.1 hc.2 ht (by omega) w R
  ·cases hd
 ·cases hd
theorem sVoteY_is (A0 A1 A2 A3 A4 : Option Addr) (c0 c1 c2 c3 c4 : Nat) (rs : List Rul) (qs : List Que) (tu se sp : Int) (ws : List Int) (sh : List Sha) (os : List Out) (Z : MeeIn A0 A1 A2 A3 A4 c0 c1 c2 c3 c4 rs qs ws sh os) (mem val : Int) (yes no abst : Int) (hs : (sp != 0) = false) (n : Mee) (hv : votA ⟨rs, qs, tu, se, sp, ws, sh, os⟩ ⟨7, mem, val, yes, no, abst⟩ = some n) (hp : pendB rs qs = true) (ho : os.length ≤ 12) (w : World) (R : MeR w A0 A1 A2 A3 A4 rs qs ws sh os) :
 Calls Tryz.prog 112 #[.agg #[.slice A0 rs.length c0, .slice A1 qs.length c1, .int .i64 tu, .int .i64 se, .int .i64 sp, .slice A2 ws.length c2, .slice A3 sh.length c3, .slice A4 os.length c4], .agg #[.int .i64 yes, .int .i64 no, .int .i64 abst]] w fun e w' => ∃ D0 d0 D1 d1 D2 d2 D3 d3 D4 d4, e = .returned (.tuple #[.agg #[.slice D0 n.rules.length d0, .slice D1 n.pend.length d1, .int .i64 n.turns, .int .i64 n.secs, .int .i64 n.spk, .slice D2 n.wait.length d2, .slice D3 n.shares.length d3, .slice D4 n.outs.length d4], .bool true]) ∧ MeO w.heap.size w' D0 d0 D1 d1 D2 d2 D3 d3 D4 d4 n.rules n.pend n.wait n.shares n.outs ∧ Below w.heap.size w w' := by
 obtain ⟨ps, ⟨qr, qm, qe⟩, hd, ht, h12, rfl⟩ := votA_parts hv
 dsimp only at hd ht h12
 unfold dsQ at hd
 split at hd
 ·rename_i q hq
  split at hd
  ·rename_i hc
   cases hd
   simp only [Bool.and_eq_true, Bool.not_eq_true'] at hc
   have hl := (List.getElem?_eq_some_iff.1 hq).1
   exact sVoteT_is A0 A1 A2 A3 A4 c0 c1 c2 c3 c4 rs qs tu se sp ws sh os Z yes no abst hs (qs.length - 1) (by omega) qr qm qe hq hc.1 hc.2 ht (by omega) w R
  ·cases hd
 ·cases hd
end Go.Proofs.YtjimibkgocieoaaGreat
