/- Texts of the proof: walks of the functions, and what they compute. -/
import Derived.Test.YtjimibkgocieoaaGreatRm13
import Derived.Test.YtjimibkgocieoaaGreatRm9
import Derived.Test.YtjimibkgocieoaaGreatRm0
import Derived.Test.YtjimibkgocieoaaGreatRm15
import Derived.Test.YtjimibkgocieoaaGreatRm12
import Derived.Test.YtjimibkgocieoaaGreatRm14
set_option maxHeartbeats 16000000
set_option maxRecDepth 100000
namespace Go.Proofs.YtjimibkgocieoaaGreat
open Go.RowKit Go.G9
structure MeeIn (A0 A1 A2 A3 A4 : Option Addr) (c0 c1 c2 c3 c4 : Nat) (rs : List Rul) (qs : List Que) (ws : List Int) (sh : List Sha) (os : List Out) : Prop where
 h0 : rs.length ≤ 1048576
 h1 : qs.length ≤ 1048576
 h2 : ws.length ≤ 1048576
 h3 : sh.length ≤ 1048576
 h4 : os.length ≤ 1048576
 n0 : A0 = none → rs = [] ∧ c0 = 0
 n1 : A1 = none → qs = [] ∧ c1 = 0
 n2 : A2 = none → ws = [] ∧ c2 = 0
 n3 : A3 = none → sh = [] ∧ c3 = 0
 n4 : A4 = none → os = [] ∧ c4 = 0
 k0 : rs.length ≤ c0
 k1 : qs.length ≤ c1
 k2 : ws.length ≤ c2
 k3 : sh.length ≤ c3
 k4 : os.length ≤ c4
structure MeR (w : World) (A0 A1 A2 A3 A4 : Option Addr) (rs : List Rul) (qs : List Que) (ws : List Int) (sh : List Sha) (os : List Out) : Prop where
 r0 : Rds 7 Rul.cells w A0 rs
 r1 : Rds 3 Que.cells w A1 qs
 r2 : Rds 1 intC w A2 ws
 r3 : Rds 3 Sha.cells w A3 sh
 r4 : Rds 3 Out.cells w A4 os
structure MeO (B : Nat) (w : World) (D0 : Option Addr) (d0 : Nat) (D1 : Option Addr) (d1 : Nat) (D2 : Option Addr) (d2 : Nat) (D3 : Option Addr) (d3 : Nat) (D4 : Option Addr) (d4 : Nat) (rs : List Rul) (qs : List Que) (ws : List Int) (sh : List Sha) (os : List Out) : Prop where
 o0 : OwnV B 48 7 Rul.cells w (.slice D0 rs.length d0) rs
 o1 : OwnV B 46 3 Que.cells w (.slice D1 qs.length d1) qs
 o2 : OwnV B 3 1 intC w (.slice D2 ws.length d2) ws
 o3 : OwnV B 144 3 Sha.cells w (.slice D3 sh.length d3) sh
 o4 : OwnV B 44 3 Out.cells w (.slice D4 os.length d4) os
section
variable {B B' : Nat} {w w' : World} {A0 A1 A2 A3 A4 D0 D1 D2 D3 D4 : Option Addr} {c0 c1 c2 c3 c4 d0 d1 d2 d3 d4 : Nat} {rs : List Rul} {qs : List Que} {ws : List Int} {sh : List Sha} {os : List Out}
theorem MeR.below (h : MeR w A0 A1 A2 A3 A4 rs qs ws sh os) (hb : Below w.heap.size w w') : MeR w' A0 A1 A2 A3 A4 rs qs ws sh os := ⟨h.r0.below hb, h.r1.below hb, h.r2.below hb, h.r3.below hb, h.r4.below hb⟩
theorem MeO.later (h : MeO B w D0 d0 D1 d1 D2 d2 D3 d3 D4 d4 rs qs ws sh os) (hb : Below w.heap.size w w') : MeO B w' D0 d0 D1 d1 D2 d2 D3 d3 D4 d4 rs qs ws sh os := ⟨h.o0.later hb, h.o1.later hb, h.o2.later hb, h.o3.later hb, h.o4.later hb⟩
theorem MeO.base (h : MeO B w D0 d0 D1 d1 D2 d2 D3 d3 D4 d4 rs qs ws sh os) (hb : B' ≤ B) : MeO B' w D0 d0 D1 d1 D2 d2 D3 d3 D4 d4 rs qs ws sh os := ⟨h.o0.base hb, h.o1.base hb, h.o2.base hb, h.o3.base hb, h.o4.base hb⟩
theorem meO_nil : MeO B w none 0 none 0 none 0 none 0 none 0 [] [] [] [] [] := ⟨OwnV.nil, OwnV.nil, OwnV.nil, OwnV.nil, OwnV.nil⟩
theorem out_len (x : Out) : (Out.cells x).length = 3 := rfl
theorem out_one (x : Out) : ∀ u, u ∈ Out.cells x → u.oneCell' = true := by
 intro u hu
 simp only [Out.cells, List.mem_cons, List.not_mem_nil, or_false] at hu
 rcases hu with rfl | rfl | rfl <;> rfl
theorem MeO.rd (h : MeO B w D0 d0 D1 d1 D2 d2 D3 d3 D4 d4 rs qs ws sh os) : MeR w D0 D1 D2 D3 D4 rs qs ws sh os := ⟨h.o0.rds rul_len, h.o1.rds que_len, h.o2.rds intC_len, h.o3.rds sha_len, h.o4.rds out_len⟩
theorem own_cap {T : Type} {sz : Nat} {f : T → List Value} {e : TypeId} {A : Option Addr} {n c : Nat} {xs : List T} (h : OwnV B e sz f w (.slice A n c) xs) (hf : ∀ y, (f y).length = sz) : xs.length ≤ c := by
 exact zb151
theorem MeO.inp (h : MeO B w D0 d0 D1 d1 D2 d2 D3 d3 D4 d4 rs qs ws sh os) (h0 : rs.length ≤ 1048576) (h1 : qs.length ≤ 1048576) (h2 : ws.length ≤ 1048576) (h3 : sh.length ≤ 1048576) (h4 : os.length ≤ 1048576) : MeeIn D0 D1 D2 D3 D4 d0 d1 d2 d3 d4 rs qs ws sh os :=
 ⟨h0, h1, h2, h3, h4, h.o0.nilOk, h.o1.nilOk, h.o2.nilOk, h.o3.nilOk, h.o4.nilOk, own_cap h.o0 rul_len, own_cap h.o1 que_len, own_cap h.o2 intC_len, own_cap h.o3 sha_len, own_cap h.o4 out_len⟩
theorem MeO.apart (h : MeO B w D0 d0 D1 d1 D2 d2 D3 d3 D4 d4 rs qs ws sh os) : Apart [.slice D0 rs.length d0, .slice D1 qs.length d1, .slice D2 ws.length d2, .slice D3 sh.length d3, .slice D4 os.length d4] := by
 unfold Apart
 refine List.Pairwise.cons (fun u hu => ?_) (List.Pairwise.cons (fun u hu => ?_) (List.Pairwise.cons (fun u hu => ?_) (List.Pairwise.cons (fun u hu => ?_) (List.Pairwise.cons (fun u hu => by simp at hu) List.Pairwise.nil))))
 ·simp only [List.mem_cons, List.not_mem_nil, or_false] at hu
  rcases hu with rfl | rfl | rfl | rfl
  ·exact h.o0.apart h.o1 (by decide)
  ·exact h.o0.apart h.o2 (by decide)
  ·exact h.o0.apart h.o3 (by decide)
  ·exact h.o0.apart h.o4 (by decide)
 ·simp only [List.mem_cons, List.not_mem_nil, or_false] at hu
  rcases hu with rfl | rfl | rfl
  ·exact h.o1.apart h.o2 (by decide)
  ·exact h.o1.apart h.o3 (by decide)
  ·exact h.o1.apart h.o4 (by decide)
 ·simp only [List.mem_cons, List.not_mem_nil, or_false] at hu
  rcases hu with rfl | rfl
  ·exact h.o2.apart h.o3 (by decide)
  ·exact h.o2.apart h.o4 (by decide)
 ·simp only [List.mem_cons, List.not_mem_nil, or_false] at hu
  subst hu
  exact h.o3.apart h.o4 (by decide)
end
def nmSp (rs : List Rul) (qs : List Que) (tu se sp : Int) (ws : List Int) (sh : List Sha) (os : List Out) : MkSpec ((Option Addr × Nat) × Option Addr × Nat) where
 par := fun n => match n with
  | 3 => [0]
  | 7 => [4]
  | 14 => [11]
  | _ => []
 val := fun n p => match n with
  | 0 => .slice p.1.1 0 0
  | 3 => .slice p.1.1 rs.length p.1.2
  | 4 => .slice p.1.1 0 0
  | 7 => .slice p.1.1 qs.length p.1.2
  | 10 => .agg #[.int .i64 tu, .int .i64 se, .int .i64 sp, .slice p.1.1 ws.length p.1.2, .slice p.2.1 sh.length p.2.2]
  | 11 => .slice p.1.1 0 0
  | 14 => .slice p.1.1 os.length p.1.2
  | _ => undef
 post := fun n σ p V0 V => match n with
  | 0 => p.1.1 = some ⟨V0.heap.size, 0, none⟩ ∧ Blk V V0.heap.size 48 #[]
  | 3 => ∃ g, (σ 0).1.1 = some ⟨g, 0, none⟩ ∧ OwnV g 48 7 Rul.cells V (.slice p.1.1 rs.length p.1.2) rs
  | 4 => p.1.1 = some ⟨V0.heap.size, 0, none⟩ ∧ Blk V V0.heap.size 46 #[]
  | 7 => ∃ g, (σ 4).1.1 = some ⟨g, 0, none⟩ ∧ OwnV g 46 3 Que.cells V (.slice p.1.1 qs.length p.1.2) qs
  | 10 => FlO V0.heap.size V p.1.1 p.1.2 p.2.1 p.2.2 ws sh
  | 11 => p.1.1 = some ⟨V0.heap.size, 0, none⟩ ∧ Blk V V0.heap.size 44 #[]
  | 14 => ∃ g, (σ 11).1.1 = some ⟨g, 0, none⟩ ∧ OwnV g 44 3 Out.cells V (.slice p.1.1 os.length p.1.2) os
  | _ => True
theorem zb118 {p : Prop} (h : p := by
 change wpList _ _ _ (_ :: []) _ _
 go_wp2
 exact Nrm_mk ⟨((some ⟨k.world.heap.size, 0, none⟩, 0), none, 0), rfl, bl1 _ _, rfl, Blk.new _ _ _⟩) : p := h
theorem zb15 {p : Prop} (h : p := by
 change wpList _ _ _ (_ :: []) _ _
 obtain ⟨U0, U, hU1, ⟨hU2, hU4⟩, hU5⟩ := hpar 0 (by simp [nmSp])
 have hU6 := hU4.to hU5; have hU7 : (σ 0).1.1 = some ⟨U0.heap.size, 0, none⟩ := hU2; have HUR := lh (HR.out.r0.below ((HCC2.out _).1 k.holds).1); have HU6 := lh hU6; clear hU6 hU4 hU2 hU1 hU5 hpar
 rw [hU7]
 have HU7 := lh hU7; clear hU7
 go_wp2_with ((at_builtin; refine wpList_appO rfl _ _ 24 rfl U0.heap.size 48 i0 _ 7 48 Tryz.underlying24 hi hz0 hz1 hz2 rfl (by decide) Rul.cells rul_len rul_one U0.heap.size rfl HU6.out (Nat.le_refl _) A0 c0 rs rfl HUR.out m0 (by unfold maxLen; omega) (by omega) ?_; intro g' c' w' hO' hb'))
 first | exact Nrm_mk ⟨((some ⟨g', 0, none⟩, c'), none, 0), rfl, hb', U0.heap.size, HU7.out, hO'⟩ | exact Nrm_mk ⟨(some ⟨g', 0, none⟩, c'), (none, 0), rfl, hb', U0.heap.size, HU7.out, hO'⟩ | exact Nrm_mk ⟨some ⟨g', 0, none⟩, c', none, 0, rfl, hb', U0.heap.size, HU7.out, hO'⟩) : p := h
theorem zb16 {p : Prop} (h : p := by
 change wpList _ _ _ (_ :: []) _ _
 obtain ⟨U0, U, hU1, ⟨hU2, hU4⟩, hU5⟩ := hpar 4 (by simp [nmSp])
 have hU6 := hU4.to hU5; have hU7 : (σ 4).1.1 = some ⟨U0.heap.size, 0, none⟩ := hU2; have HUR := lh (HR.out.r1.below ((HCC2.out _).1 k.holds).1); have HU6 := lh hU6; clear hU6 hU4 hU2 hU1 hU5 hpar
 rw [hU7]
 have HU7 := lh hU7; clear hU7
 go_wp2_with ((at_builtin; refine wpList_appO rfl _ _ 25 rfl U0.heap.size 46 j0 _ 3 24 Tryz.underlying25 ji jz0 jz1 jz2 rfl (by decide) Que.cells que_len que_one U0.heap.size rfl HU6.out (Nat.le_refl _) A1 c1 qs rfl HUR.out m1 (by unfold maxLen; omega) (by omega) ?_; intro g' c' w' hO' hb'))
 first | exact Nrm_mk ⟨((some ⟨g', 0, none⟩, c'), none, 0), rfl, hb', U0.heap.size, HU7.out, hO'⟩ | exact Nrm_mk ⟨(some ⟨g', 0, none⟩, c'), (none, 0), rfl, hb', U0.heap.size, HU7.out, hO'⟩ | exact Nrm_mk ⟨some ⟨g', 0, none⟩, c', none, 0, rfl, hb', U0.heap.size, HU7.out, hO'⟩) : p := h
theorem zb14 {p : Prop} (h : p := by
 change wpList _ _ _ (_ :: []) _ _
 obtain ⟨U0, U, hU1, ⟨hU2, hU4⟩, hU5⟩ := hpar 11 (by simp [nmSp])
 have hU6 := hU4.to hU5; have hU7 : (σ 11).1.1 = some ⟨U0.heap.size, 0, none⟩ := hU2; have HUR := lh (HR.out.r4.below ((HCC2.out _).1 k.holds).1); have HU6 := lh hU6; clear hU6 hU4 hU2 hU1 hU5 hpar
 rw [hU7]
 have HU7 := lh hU7; clear hU7
 go_wp2_with ((at_builtin; refine wpList_appO rfl _ _ 30 rfl U0.heap.size 44 l0 _ 3 24 Tryz.underlying30 li lz0 lz1 lz2 rfl (by decide) Out.cells out_len out_one U0.heap.size rfl HU6.out (Nat.le_refl _) A4 c4 os rfl HUR.out m4 (by unfold maxLen; omega) (by omega) ?_; intro g' c' w' hO' hb'))
 first | exact Nrm_mk ⟨((some ⟨g', 0, none⟩, c'), none, 0), rfl, hb', U0.heap.size, HU7.out, hO'⟩ | exact Nrm_mk ⟨(some ⟨g', 0, none⟩, c'), (none, 0), rfl, hb', U0.heap.size, HU7.out, hO'⟩ | exact Nrm_mk ⟨some ⟨g', 0, none⟩, c', none, 0, rfl, hb', U0.heap.size, HU7.out, hO'⟩) : p := h
theorem newMee_is (A0 A1 A2 A3 A4 : Option Addr) (c0 c1 c2 c3 c4 : Nat) (rs : List Rul) (qs : List Que) (tu se sp : Int) (ws : List Int) (sh : List Sha) (os : List Out) (Z : MeeIn A0 A1 A2 A3 A4 c0 c1 c2 c3 c4 rs qs ws sh os) (w : World) (R : MeR w A0 A1 A2 A3 A4 rs qs ws sh os) :
 Calls Tryz.prog 74 #[.agg #[.slice A0 rs.length c0, .slice A1 qs.length c1, .int .i64 tu, .int .i64 se, .int .i64 sp, .slice A2 ws.length c2, .slice A3 sh.length c3, .slice A4 os.length c4]] w fun e w' => ∃ D0 d0 D1 d1 D2 d2 D3 d3 D4 d4, e = .returned (.agg #[.slice D0 rs.length d0, .slice D1 qs.length d1, .int .i64 tu, .int .i64 se, .int .i64 sp, .slice D2 ws.length d2, .slice D3 sh.length d3, .slice D4 os.length d4]) ∧ MeO w.heap.size w' D0 d0 D1 d1 D2 d2 D3 d3 D4 d4 rs qs ws sh os ∧ Below w.heap.size w w' := by
 obtain ⟨i0, hi, hz0, hz1, hz2⟩ := info_parts info_Rul
 obtain ⟨j0, ji, jz0, jz1, jz2⟩ := info_parts info_Que
 obtain ⟨l0, li, lz0, lz1, lz2⟩ := info_parts info_Out
 have HR := lh R; have HZ := lh Z; have b0 := Z.h0; have b1 := Z.h1; have b4 := Z.h4; have m0 := Z.n0; have m1 := Z.n1; have m4 := Z.n4; clear R Z
 go_in
 go_upto_region 1 with fail
 refine lay2 fun wX hq1 hF hZ => ?_
 have HB := hq1; have f' := hF.cs8; have z' := hZ.cs8; have hz0' := hZ.lt
 obtain ⟨CC2, hCC2⟩ : ∃ X : World → Prop, ∀ V, X V ↔ (Below w.heap.size w V ∧ Blk V (w.heap.size) 32 #[.slice A0 rs.length c0, .slice A1 qs.length c1, .int .i64 tu, .int .i64 se, .int .i64 sp, .slice A2 ws.length c2, .slice A3 sh.length c3, .slice A4 os.length c4]) := ⟨_, fun _ => Iff.rfl⟩
 have HCC2 := lh hCC2; clear hCC2
 haveI : Nonempty (Hld CC2) := ⟨⟨wX, ((HCC2.out _).2 ⟨HB, hF⟩)⟩⟩
 clear f'; clear z'; have f' := Blk.cs8K (fun K : Hld CC2 => ((HCC2.out _).1 K.holds).2)
 go_wp2
 refine wp_region_mk (nmSp rs qs tu se sp ws sh os) CC2 [([], 0), ([1, 2], 3), ([], 4), ([5, 6], 7), ([8, 9], 10), ([], 11), ([12, 13], 14)] [15] [([], 16)] [] (by kernel_rfl) (by kernel_rfl) ((HCC2.out _).2 ⟨HB.drew, hF⟩) (fun W W' h k => ((HCC2.out _).2 ⟨((HCC2.out _).1 h).1.trans (k.mono ((HCC2.out _).1 h).1.size), ((HCC2.out _).1 h).2.below k ((HCC2.out _).1 h).2.lt⟩)) ?_
 intro σ
 refine wpMk1_cons (some 3) rfl (.slice (σ 0).1.1 0 0) rfl fun K1 hK1 => ?_
 change wpQuiet _ _ _ _ ([]) _
 refine wpQuiet_nil ?_
 refine ⟨fun k hpar => ?_, hK1 _ ?_⟩
 ·exact zb118
 simp only [Act.put]
 go_simp
 refine wpMk1_cons (some 6) rfl (.slice (σ 3).1.1 rs.length (σ 3).1.2) rfl fun K1 hK1 => ?_
 change wpQuiet _ _ _ _ (_ :: _ :: []) _
 repeat (go_big_quiet_step (fail))
 refine wpQuiet_nil ?_
 refine ⟨fun k hpar => ?_, hK1 _ ?_⟩
 ·exact zb15
 simp only [Act.put]
 go_simp
 refine wpMk1_cons (some 7) rfl (.slice (σ 4).1.1 0 0) rfl fun K1 hK1 => ?_
 change wpQuiet _ _ _ _ ([]) _
 refine wpQuiet_nil ?_
 refine ⟨fun k hpar => ?_, hK1 _ ?_⟩
 ·exact zb118
 simp only [Act.put]
 go_simp
 refine wpMk1_cons (some 10) rfl (.slice (σ 7).1.1 qs.length (σ 7).1.2) rfl fun K1 hK1 => ?_
 change wpQuiet _ _ _ _ (_ :: _ :: []) _
 repeat (go_big_quiet_step (fail))
 refine wpQuiet_nil ?_
 refine ⟨fun k hpar => ?_, hK1 _ ?_⟩
 ·exact zb16
 simp only [Act.put]
 go_simp
 refine wpMk1_cons (some 13) rfl (.agg #[.int .i64 tu, .int .i64 se, .int .i64 sp, .slice (σ 10).1.1 ws.length (σ 10).1.2, .slice (σ 10).2.1 sh.length (σ 10).2.2]) rfl fun K1 hK1 => ?_
 change wpQuiet _ _ _ _ (_ :: _ :: []) _
 repeat (go_big_quiet_step (fail))
 refine wpQuiet_nil ?_
 refine ⟨fun k hpar => ?_, hK1 _ ?_⟩
 ·change wpList _ _ _ (_ :: []) _ _
  go_wp2_with fail
  refine (newFloor_is tu se sp A2 c2 ws A3 c3 sh HZ.out.h2 HZ.out.h3 HZ.out.n2 HZ.out.n3 _ (HR.out.r2.below ((HCC2.out _).1 k.holds).1) (HR.out.r3.below ((HCC2.out _).1 k.holds).1)).mono ?_
  rintro e w9 ⟨D2, d2, g3, d3, rfl, OO, hb9⟩
  go_wp2
  exact Nrm_mk ⟨((D2, d2), some ⟨g3, 0, none⟩, d3), rfl, hb9, OO⟩
 simp only [Act.put]
 go_simp
 refine wpMk1_cons (some 14) rfl (.slice (σ 11).1.1 0 0) rfl fun K1 hK1 => ?_
 change wpQuiet _ _ _ _ ([]) _
 refine wpQuiet_nil ?_
 refine ⟨fun k hpar => ?_, hK1 _ ?_⟩
 ·exact zb118
 simp only [Act.put]
 go_simp
 refine wpMk1_cons (some 17) rfl (.slice (σ 14).1.1 os.length (σ 14).1.2) rfl fun K1 hK1 => ?_
 change wpQuiet _ _ _ _ (_ :: _ :: []) _
 repeat (go_big_quiet_step (fail))
 refine wpQuiet_nil ?_
 refine ⟨fun k hpar => ?_, hK1 _ ?_⟩
 ·exact zb14
 simp only [Act.put]
 go_simp
 refine wpMk1_last ?_
 change wpQuiet _ _ _ _ (_ :: []) _
 repeat (go_big_quiet_step (fail))
 refine wpQuiet_nil ?_
 intro V0 V W hM hW
 obtain ⟨g3, e3, q3⟩ : ∃ g, (σ 0).1.1 = some ⟨g, 0, none⟩ ∧ OwnV g 48 7 Rul.cells (V 3) (.slice (σ 3).1.1 rs.length (σ 3).1.2) rs := hM.post 3 (by simp)
 obtain ⟨a3, _⟩ : (σ 0).1.1 = some ⟨(V0 0).heap.size, 0, none⟩ ∧ Blk (V 0) (V0 0).heap.size 48 #[] := hM.post 0 (by simp)
 have s3 : (V0 0).heap.size = g3 := by rw [a3] at e3; exact congrArg Addr.block (Option.some.inj e3)
 have O0 := (q3.later (hM.later 3 (by simp))).base (B' := wX.heap.size) (by rw [← s3]; exact (hM.from0 0 (by simp)).size)
 obtain ⟨g7, e7, q7⟩ : ∃ g, (σ 4).1.1 = some ⟨g, 0, none⟩ ∧ OwnV g 46 3 Que.cells (V 7) (.slice (σ 7).1.1 qs.length (σ 7).1.2) qs := hM.post 7 (by simp)
 obtain ⟨a7, _⟩ : (σ 4).1.1 = some ⟨(V0 4).heap.size, 0, none⟩ ∧ Blk (V 4) (V0 4).heap.size 46 #[] := hM.post 4 (by simp)
 have s7 : (V0 4).heap.size = g7 := by rw [a7] at e7; exact congrArg Addr.block (Option.some.inj e7)
 have O1 := (q7.later (hM.later 7 (by simp))).base (B' := wX.heap.size) (by rw [← s7]; exact (hM.from0 4 (by simp)).size)
 obtain ⟨g14, e14, q14⟩ : ∃ g, (σ 11).1.1 = some ⟨g, 0, none⟩ ∧ OwnV g 44 3 Out.cells (V 14) (.slice (σ 14).1.1 os.length (σ 14).1.2) os := hM.post 14 (by simp)
 obtain ⟨a14, _⟩ : (σ 11).1.1 = some ⟨(V0 11).heap.size, 0, none⟩ ∧ Blk (V 11) (V0 11).heap.size 44 #[] := hM.post 11 (by simp)
 have s14 : (V0 11).heap.size = g14 := by rw [a14] at e14; exact congrArg Addr.block (Option.some.inj e14)
 have O4 := (q14.later (hM.later 14 (by simp))).base (B' := wX.heap.size) (by rw [← s14]; exact (hM.from0 11 (by simp)).size); have q10 : FlO (V0 10).heap.size (V 10) (σ 10).1.1 (σ 10).1.2 (σ 10).2.1 (σ 10).2.2 ws sh := hM.post 10 (by simp); have OO := (q10.later (hM.later 10 (by simp))).base (B' := wX.heap.size) (hM.from0 10 (by simp)).size; clear f'; have hq3 : Below wX.heap.size wX W := bth bel (hM.whole 10 (by simp)).undrew
 replace HB := bth HB hq3; replace hF := hF.to hq3; replace hZ := hZ.to hq3; have z' := hZ.cs8; clear hM q10 q3 q7 q14 a3 a7 a14 e3 e7 e14 s3 s7 s14 hW m0 m1 m4
 generalize σ 3 = p0 at *
 generalize σ 7 = p1 at *
 generalize σ 10 = p2 at *
 generalize σ 14 = p4 at *
 obtain ⟨⟨D0, d0⟩, _, _⟩ := p0
 obtain ⟨⟨D1, d1⟩, _, _⟩ := p1
 obtain ⟨⟨D2, d2⟩, D3, d3⟩ := p2
 obtain ⟨⟨D4, d4⟩, _, _⟩ := p4
 simp only at O0 O1 O4 OO
 have O2 := OO.o2; have O3 := OO.o3; clear OO
 refine wpMix_cons fun K2 hK2 => ?_
 change wpQuiet _ _ _ _ ([]) _
 refine wpQuiet_nil ?_
 change wpList _ _ _ (_ :: []) _ _
 have fhZ' := hZ.fz8
 go_wp2
 clear z'
 refine st8 0 fun W9 tW9 => ?_
 replace HB := tW9.hc HB; replace hF := tW9.fa hF; replace hZ := tW9.all8 hZ; replace O0 := O0.keptS tW9 (fun k hk => by first | exact neO0 k hk | (have := O0.lt k hk; omega)); replace O1 := O1.keptS tW9 (fun k hk => by first | exact neO1 k hk | (have := O1.lt k hk; omega)); replace O2 := O2.keptS tW9 (fun k hk => by first | exact neO2 k hk | (have := O2.lt k hk; omega)); replace O3 := O3.keptS tW9 (fun k hk => by first | exact neO3 k hk | (have := O3.lt k hk; omega))
 replace O4 := O4.keptS tW9 (fun k hk => by first | exact neO4 k hk | (have := O4.lt k hk; omega)); have z' := hZ.cs8
 refine Nrm_intro (((HCC2.out _).2 ⟨HB, hF⟩)) (hK2 _ _ ?_)
 refine wpMix_last ?_
 change wpQuiet _ _ _ _ ([]) _
 refine wpQuiet_nil ?_
 go_wp2
 exact brt ⟨D0, d0, D1, d1, D2, d2, D3, d3, D4, d4, rfl, ⟨O0.base (by omega), O1.base (by omega), O2.base (by omega), O3.base (by omega), O4.base (by omega)⟩, HB⟩ (by simp [results, Tryz.results74, go_sem, z'])
theorem l25Own_is (A0 A1 A2 A3 A4 : Option Addr) (c0 c1 c2 c3 c4 : Nat) (rs : List Rul) (qs : List Que) (tu se sp : Int) (ws : List Int) (sh : List Sha) (os : List Out) (Z : MeeIn A0 A1 A2 A3 A4 c0 c1 c2 c3 c4 rs qs ws sh os) (w : World) (R : MeR w A0 A1 A2 A3 A4 rs qs ws sh os) :
 Calls Tryz.prog 75 #[.agg #[.slice A0 rs.length c0, .slice A1 qs.length c1, .int .i64 tu, .int .i64 se, .int .i64 sp, .slice A2 ws.length c2, .slice A3 sh.length c3, .slice A4 os.length c4]] w fun e w' => ∃ D0 d0 D1 d1 D2 d2 D3 d3 D4 d4, e = .returned (.agg #[.slice D0 rs.length d0, .slice D1 qs.length d1, .int .i64 tu, .int .i64 se, .int .i64 sp, .slice D2 ws.length d2, .slice D3 sh.length d3, .slice D4 os.length d4]) ∧ MeO w.heap.size w' D0 d0 D1 d1 D2 d2 D3 d3 D4 d4 rs qs ws sh os ∧ Below w.heap.size w w' := by
 obtain ⟨i0, hi, hz0, hz1, hz2⟩ := info_parts info_Rul
 obtain ⟨j0, ji, jz0, jz1, jz2⟩ := info_parts info_Que
 obtain ⟨l0, li, lz0, lz1, lz2⟩ := info_parts info_Out
 have HR := lh R; have HZ := lh Z; have b0 := Z.h0; have b1 := Z.h1; have b4 := Z.h4; have m0 := Z.n0; have m1 := Z.n1; have m4 := Z.n4; clear R Z
 go_in
 go_upto_region 1 with fail
 refine lay2 fun wX hq1 hF hZ => ?_
 have HB := hq1; have f' := hF.cs8; have z' := hZ.cs8; have hz0' := hZ.lt
 obtain ⟨CC2, hCC2⟩ : ∃ X : World → Prop, ∀ V, X V ↔ (Below w.heap.size w V ∧ Blk V (w.heap.size) 32 #[.slice A0 rs.length c0, .slice A1 qs.length c1, .int .i64 tu, .int .i64 se, .int .i64 sp, .slice A2 ws.length c2, .slice A3 sh.length c3, .slice A4 os.length c4]) := ⟨_, fun _ => Iff.rfl⟩
 have HCC2 := lh hCC2; clear hCC2
 haveI : Nonempty (Hld CC2) := ⟨⟨wX, ((HCC2.out _).2 ⟨HB, hF⟩)⟩⟩
 clear f'; clear z'; have f' := Blk.cs8K (fun K : Hld CC2 => ((HCC2.out _).1 K.holds).2)
 go_wp2
 refine wp_region_mk (nmSp rs qs tu se sp ws sh os) CC2 [([], 0), ([1, 2], 3), ([], 4), ([5, 6], 7), ([8, 9], 10), ([], 11), ([12, 13], 14)] [15] [([], 16)] [] (by kernel_rfl) (by kernel_rfl) ((HCC2.out _).2 ⟨HB.drew, hF⟩) (fun W W' h k => ((HCC2.out _).2 ⟨((HCC2.out _).1 h).1.trans (k.mono ((HCC2.out _).1 h).1.size), ((HCC2.out _).1 h).2.below k ((HCC2.out _).1 h).2.lt⟩)) ?_
 intro σ
 refine wpMk1_cons (some 3) rfl (.slice (σ 0).1.1 0 0) rfl fun K1 hK1 => ?_
 change wpQuiet _ _ _ _ ([]) _
 refine wpQuiet_nil ?_
 refine ⟨fun k hpar => ?_, hK1 _ ?_⟩
 ·exact zb118
 simp only [Act.put]
 go_simp
 refine wpMk1_cons (some 6) rfl (.slice (σ 3).1.1 rs.length (σ 3).1.2) rfl fun K1 hK1 => ?_
 change wpQuiet _ _ _ _ (_ :: _ :: []) _
 repeat (go_big_quiet_step (fail))
 refine wpQuiet_nil ?_
 refine ⟨fun k hpar => ?_, hK1 _ ?_⟩
 ·exact zb15
 simp only [Act.put]
 go_simp
 refine wpMk1_cons (some 7) rfl (.slice (σ 4).1.1 0 0) rfl fun K1 hK1 => ?_
 change wpQuiet _ _ _ _ ([]) _
 refine wpQuiet_nil ?_
 refine ⟨fun k hpar => ?_, hK1 _ ?_⟩
 ·exact zb118
 simp only [Act.put]
 go_simp
 refine wpMk1_cons (some 10) rfl (.slice (σ 7).1.1 qs.length (σ 7).1.2) rfl fun K1 hK1 => ?_
 change wpQuiet _ _ _ _ (_ :: _ :: []) _
 repeat (go_big_quiet_step (fail))
 refine wpQuiet_nil ?_
 refine ⟨fun k hpar => ?_, hK1 _ ?_⟩
 ·exact zb16
 simp only [Act.put]
 go_simp
 refine wpMk1_cons (some 13) rfl (.agg #[.int .i64 tu, .int .i64 se, .int .i64 sp, .slice (σ 10).1.1 ws.length (σ 10).1.2, .slice (σ 10).2.1 sh.length (σ 10).2.2]) rfl fun K1 hK1 => ?_
 change wpQuiet _ _ _ _ (_ :: _ :: []) _
 repeat (go_big_quiet_step (fail))
 refine wpQuiet_nil ?_
 refine ⟨fun k hpar => ?_, hK1 _ ?_⟩
 ·change wpList _ _ _ (_ :: []) _ _
  go_wp2_with fail
  refine (l8Own_is tu se sp A2 c2 ws A3 c3 sh HZ.out.h2 HZ.out.h3 HZ.out.n2 HZ.out.n3 _ (HR.out.r2.below ((HCC2.out _).1 k.holds).1) (HR.out.r3.below ((HCC2.out _).1 k.holds).1)).mono ?_
  rintro e w9 ⟨D2, d2, D3, d3, rfl, OO, hb9⟩
  go_wp2
  exact Nrm_mk ⟨((D2, d2), D3, d3), rfl, hb9, OO⟩
 simp only [Act.put]
 go_simp
 refine wpMk1_cons (some 14) rfl (.slice (σ 11).1.1 0 0) rfl fun K1 hK1 => ?_
 change wpQuiet _ _ _ _ ([]) _
 refine wpQuiet_nil ?_
 refine ⟨fun k hpar => ?_, hK1 _ ?_⟩
 ·exact zb118
 simp only [Act.put]
 go_simp
 refine wpMk1_cons (some 17) rfl (.slice (σ 14).1.1 os.length (σ 14).1.2) rfl fun K1 hK1 => ?_
 change wpQuiet _ _ _ _ (_ :: _ :: []) _
 repeat (go_big_quiet_step (fail))
 refine wpQuiet_nil ?_
 refine ⟨fun k hpar => ?_, hK1 _ ?_⟩
 ·exact zb14
 simp only [Act.put]
 go_simp
 refine wpMk1_last ?_
 change wpQuiet _ _ _ _ (_ :: []) _
 repeat (go_big_quiet_step (fail))
 refine wpQuiet_nil ?_
 intro V0 V W hM hW
 obtain ⟨g3, e3, q3⟩ : ∃ g, (σ 0).1.1 = some ⟨g, 0, none⟩ ∧ OwnV g 48 7 Rul.cells (V 3) (.slice (σ 3).1.1 rs.length (σ 3).1.2) rs := hM.post 3 (by simp)
 obtain ⟨a3, _⟩ : (σ 0).1.1 = some ⟨(V0 0).heap.size, 0, none⟩ ∧ Blk (V 0) (V0 0).heap.size 48 #[] := hM.post 0 (by simp)
 have s3 : (V0 0).heap.size = g3 := by rw [a3] at e3; exact congrArg Addr.block (Option.some.inj e3)
 have O0 := (q3.later (hM.later 3 (by simp))).base (B' := wX.heap.size) (by rw [← s3]; exact (hM.from0 0 (by simp)).size)
 obtain ⟨g7, e7, q7⟩ : ∃ g, (σ 4).1.1 = some ⟨g, 0, none⟩ ∧ OwnV g 46 3 Que.cells (V 7) (.slice (σ 7).1.1 qs.length (σ 7).1.2) qs := hM.post 7 (by simp)
 obtain ⟨a7, _⟩ : (σ 4).1.1 = some ⟨(V0 4).heap.size, 0, none⟩ ∧ Blk (V 4) (V0 4).heap.size 46 #[] := hM.post 4 (by simp)
 have s7 : (V0 4).heap.size = g7 := by rw [a7] at e7; exact congrArg Addr.block (Option.some.inj e7)
 have O1 := (q7.later (hM.later 7 (by simp))).base (B' := wX.heap.size) (by rw [← s7]; exact (hM.from0 4 (by simp)).size)
 obtain ⟨g14, e14, q14⟩ : ∃ g, (σ 11).1.1 = some ⟨g, 0, none⟩ ∧ OwnV g 44 3 Out.cells (V 14) (.slice (σ 14).1.1 os.length (σ 14).1.2) os := hM.post 14 (by simp)
 obtain ⟨a14, _⟩ : (σ 11).1.1 = some ⟨(V0 11).heap.size, 0, none⟩ ∧ Blk (V 11) (V0 11).heap.size 44 #[] := hM.post 11 (by simp)
 have s14 : (V0 11).heap.size = g14 := by rw [a14] at e14; exact congrArg Addr.block (Option.some.inj e14)
 have O4 := (q14.later (hM.later 14 (by simp))).base (B' := wX.heap.size) (by rw [← s14]; exact (hM.from0 11 (by simp)).size); have q10 : FlO (V0 10).heap.size (V 10) (σ 10).1.1 (σ 10).1.2 (σ 10).2.1 (σ 10).2.2 ws sh := hM.post 10 (by simp); have OO := (q10.later (hM.later 10 (by simp))).base (B' := wX.heap.size) (hM.from0 10 (by simp)).size; clear f'; have hq3 : Below wX.heap.size wX W := bth bel (hM.whole 10 (by simp)).undrew
 replace HB := bth HB hq3; replace hF := hF.to hq3; replace hZ := hZ.to hq3; have z' := hZ.cs8; clear hM q10 q3 q7 q14 a3 a7 a14 e3 e7 e14 s3 s7 s14 hW m0 m1 m4
 generalize σ 3 = p0 at *
 generalize σ 7 = p1 at *
 generalize σ 10 = p2 at *
 generalize σ 14 = p4 at *
 obtain ⟨⟨D0, d0⟩, _, _⟩ := p0
 obtain ⟨⟨D1, d1⟩, _, _⟩ := p1
 obtain ⟨⟨D2, d2⟩, D3, d3⟩ := p2
 obtain ⟨⟨D4, d4⟩, _, _⟩ := p4
 simp only at O0 O1 O4 OO
 have O2 := OO.o2; have O3 := OO.o3; clear OO
 refine wpMix_cons fun K2 hK2 => ?_
 change wpQuiet _ _ _ _ ([]) _
 refine wpQuiet_nil ?_
 change wpList _ _ _ (_ :: []) _ _
 have fhZ' := hZ.fz8
 go_wp2
 clear z'
 refine st8 0 fun W9 tW9 => ?_
 replace HB := tW9.hc HB; replace hF := tW9.fa hF; replace hZ := tW9.all8 hZ; replace O0 := O0.keptS tW9 (fun k hk => by first | exact neO0 k hk | (have := O0.lt k hk; omega)); replace O1 := O1.keptS tW9 (fun k hk => by first | exact neO1 k hk | (have := O1.lt k hk; omega)); replace O2 := O2.keptS tW9 (fun k hk => by first | exact neO2 k hk | (have := O2.lt k hk; omega)); replace O3 := O3.keptS tW9 (fun k hk => by first | exact neO3 k hk | (have := O3.lt k hk; omega))
 replace O4 := O4.keptS tW9 (fun k hk => by first | exact neO4 k hk | (have := O4.lt k hk; omega)); have z' := hZ.cs8
 refine Nrm_intro (((HCC2.out _).2 ⟨HB, hF⟩)) (hK2 _ _ ?_)
 refine wpMix_last ?_
 change wpQuiet _ _ _ _ ([]) _
 refine wpQuiet_nil ?_
 go_wp2
 exact brt ⟨D0, d0, D1, d1, D2, d2, D3, d3, D4, d4, rfl, ⟨O0.base (by omega), O1.base (by omega), O2.base (by omega), O3.base (by omega), O4.base (by omega)⟩, HB⟩ (by simp [results, Tryz.results75, go_sem, z'])
open Go.RowKit Go.G9
theorem l1Least_is (a b v : Int) (hv : v = if a < b then a else b) (w : World) : Calls Tryz.prog 128 #[.int .i64 a, .int .i64 b] w fun e w' => e = .returned (.int .i64 v) ∧ w' = w := by
 subst hv
 by_cases h : a < b
 ·rw [if_pos h]
  go_in
  go_wp2
  go_ret
  exact ⟨rfl, rfl⟩
 ·rw [if_neg h]
  go_in
  go_wp2
  go_ret
  exact ⟨rfl, rfl⟩
theorem zb97 {p : Prop} (h : p := by
 have fhZ' := hZ.fz5
 go_wp2
 clear f' z'
 refine st5 0 fun W9 tW9 => ?_
 replace HB := tW9.hc HB; replace hZ := tW9.all5 hZ; have z' := hZ.cs5
 exact brt ⟨rfl, HB⟩ (by simp [results, Tryz.results158, go_sem, z'])) : p := h
theorem sSpeakF_is (tu se sp : Int) (A2 : Option Addr) (c2 : Nat) (ws : List Int) (A3 : Option Addr) (c3 : Nat) (sh : List Sha) (h2 : ws.length ≤ 1048576) (h3 : sh.length ≤ 1048576) (n2 : A2 = none → ws = [] ∧ c2 = 0) (n3 : A3 = none → sh = [] ∧ c3 = 0) (k2 : ws.length ≤ c2) (k3 : sh.length ≤ c3) (n : Int) (hv : spB ⟨tu, se, sp, ws, sh⟩ n = false) (w : World) (R2 : Rds 1 intC w A2 ws) (R3 : Rds 3 Sha.cells w A3 sh) :
 Calls Tryz.prog 158 #[.agg #[.int .i64 tu, .int .i64 se, .int .i64 sp, .slice A2 ws.length c2, .slice A3 sh.length c3], .int .i64 n] w fun e w' => e = .returned (.tuple #[.agg #[.int .i64 0, .int .i64 0, .int .i64 0, .slice none 0 0, .slice none 0 0], .int .i64 0, .bool false]) ∧ Below w.heap.size w w' := by
 have HR2 := lh R2; have HR3 := lh R3; clear R2 R3 n2 n3 k3
 cases hf : floB tu se sp ws sh
 ·have HV := lh hf
  clear hf hv
  go_in
  go_upto_region 1 with fail
  refine lay2 fun wX hq1 hF hZ => ?_
  have HB := hq1; have f' := hF.cs5; have z' := hZ.cs5
  go_wp2_with fail
  refine (l8Good_is tu se sp A2 ws c2 A3 c3 sh h2 h3 k2 _ HV.out _ (HR2.out.below (bth HB bel)) (HR3.out.below (bth HB bel))).mono ?_
  rintro e w2 ⟨rfl, hb2⟩
  have hq2 := be wX hb2; replace HB := bth HB hq2; clear f'; replace hZ := hZ.to hq2; clear z'; have z' := hZ.cs5; have fhZ' := hZ.fz5
  go_wp2
  clear z'
  refine st5 0 fun W9 tW9 => ?_
  replace HB := tW9.hc HB; replace hZ := tW9.all5 hZ; have z' := hZ.cs5
  exact brt ⟨rfl, HB⟩ (by simp [results, Tryz.results158, go_sem, z'])
 ·cases hs : (sp == 0)
  case true =>
   have HV := lh hf; clear hf hv
   go_in
   go_upto_region 1 with fail
   refine lay2 fun wX hq1 hF hZ => ?_
   have HB := hq1; have f' := hF.cs5; have z' := hZ.cs5
   go_wp2_with fail
   refine (l8Good_is tu se sp A2 ws c2 A3 c3 sh h2 h3 k2 _ HV.out _ (HR2.out.below (bth HB bel)) (HR3.out.below (bth HB bel))).mono ?_
   rintro e w2 ⟨rfl, hb2⟩
   have hq2 := be wX hb2; replace HB := bth HB hq2; replace hF := hF.to hq2; clear f'; have f' := hF.cs5; replace hZ := hZ.to hq2; clear z'; have z' := hZ.cs5
   exact zb97
  case false =>
   have hi : inB n 1 3600 = false := by simpa [spB, Fl.ok, hf, hs] using hv
   have HV := lh hf; have HI := lh hi; clear hf hv hi
   go_in
   go_upto_region 1 with fail
   refine lay2 fun wX hq1 hF hZ => ?_
   have HB := hq1; have f' := hF.cs5; have z' := hZ.cs5
   go_wp2_with fail
   refine (l8Good_is tu se sp A2 ws c2 A3 c3 sh h2 h3 k2 _ HV.out _ (HR2.out.below (bth HB bel)) (HR3.out.below (bth HB bel))).mono ?_
   rintro e w2 ⟨rfl, hb2⟩
   have hq2 := be wX hb2; replace HB := bth HB hq2; replace hF := hF.to hq2; clear f'; have f' := hF.cs5; replace hZ := hZ.to hq2; clear z'; have z' := hZ.cs5
   go_wp2_with fail
   refine (l1In_is n 1 3600 _ HI.out _).mono ?_
   rintro e w0 ⟨rfl, h0⟩
   rw [h0]
   clear h0 w0
   exact zb97
theorem sSpeakT_is (tu se sp : Int) (A2 : Option Addr) (c2 : Nat) (ws : List Int) (A3 : Option Addr) (c3 : Nat) (sh : List Sha) (h2 : ws.length ≤ 1048576) (h3 : sh.length ≤ 1048576) (n2 : A2 = none → ws = [] ∧ c2 = 0) (n3 : A3 = none → sh = [] ∧ c3 = 0) (k2 : ws.length ≤ c2) (k3 : sh.length ≤ c3) (n : Int) (hv : spB ⟨tu, se, sp, ws, sh⟩ n = true) (w : World) (R2 : Rds 1 intC w A2 ws) (R3 : Rds 3 Sha.cells w A3 sh) :
 Calls Tryz.prog 158 #[.agg #[.int .i64 tu, .int .i64 se, .int .i64 sp, .slice A2 ws.length c2, .slice A3 sh.length c3], .int .i64 n] w fun e w' => ∃ D2 d2 D3 d3, e = .returned (.tuple #[.agg #[.int .i64 tu, .int .i64 se, .int .i64 (spF ⟨tu, se, sp, ws, sh⟩ n).sp, .slice D2 ws.length d2, .slice D3 (spF ⟨tu, se, sp, ws, sh⟩ n).sh.length d3], .int .i64 (spU ⟨tu, se, sp, ws, sh⟩ n), .bool true]) ∧ FlO w.heap.size w' D2 d2 D3 d3 ws (spF ⟨tu, se, sp, ws, sh⟩ n).sh ∧ Below w.heap.size w w' := by
 have HR2 := lh R2; have HR3 := lh R3; have HN2 := lh n2; have HN3 := lh n3; have HK3 := lh k3; clear R2 R3 n2 n3 k3
 obtain ⟨hok, hs0, hn1, hn2⟩ := spB_parts hv
 have hs : (sp == 0) = false := beq_eq_false_iff_ne.2 hs0; have hlen := flo_len hok
 obtain ⟨hp1, hp2, hp3⟩ := ok_share hok hs0
 have htu := (fl_ok.1 hok).t; have hse := (fl_ok.1 hok).s
 obtain ⟨hq1, hq2, hq3⟩ := shaOk_iff.1 hp2
 have hmem := shareF_mem (xs := sh) (m := sp); have hord := (fl_ok.1 hok).ord
 obtain ⟨⟨s0m, st, ss⟩, hsh⟩ : ∃ x, shareF sh sp = x := ⟨_, rfl⟩
 simp only at hp3 hq2 hq3 hord
 rw [hsh] at hp3 hq2 hq3 hmem
 simp only at hp3 hq2 hq3 hmem htu hse
 have hshm := hsh
 subst hmem
 obtain ⟨u, hu⟩ : ∃ u, u = (if n < se - ss then n else se - ss) := ⟨_, rfl⟩
 have eu : spU ⟨tu, se, s0m, ws, sh⟩ n = u := by simp [spU, hsh, hu]
 have hu1 : 0 ≤ u ∧ u ≤ se - ss := by rw [hu]; split <;> omega
 have eS : spS ⟨tu, se, s0m, ws, sh⟩ n = ⟨s0m, st, ss + u⟩ := by simp [spS, hsh, eu]
 rw [eu]
 have HV : Hid (floB tu se s0m ws sh = true) := lh hok; have HI : Hid (inB n 1 3600 = true) := lh (inB_iff.2 ⟨hn1, hn2⟩); have HSH := lh hsh; have ES := lh eS; have HU := lh hu
 have hshl : sh.length ≤ 1048574 := by simp only at hlen; omega
 have hset : (setSh sh ⟨s0m, st, ss + u⟩).length ≤ 1048575 := by have := setSh_len sh ⟨s0m, st, ss + u⟩; omega
 have hsf : shareF (setSh sh ⟨s0m, st, ss + u⟩) s0m = ⟨s0m, st, ss + u⟩ := by rw [setSh_share s0m hord, if_pos rfl]
 have HSF := lh hsf; have HSET := lh hset; clear hok hv hp1 hp2 hq1 hsh hlen hshm hord eS hsf hset hs0 hu eu hn1 hn2
 go_in
 go_upto_region 1 with fail
 refine lay2 fun wX hq1 hF hZ => ?_
 have HB := hq1; have f' := hF.cs5; have z' := hZ.cs5; have hz0' := hZ.lt
 go_wp2_with fail
 refine (l8Good_is tu se s0m A2 ws c2 A3 c3 sh h2 h3 k2 _ HV.out _ (HR2.out.below (bth HB bel)) (HR3.out.below (bth HB bel))).mono ?_
 rintro e w2 ⟨rfl, hb2⟩
 have hq2 := be wX hb2; replace HB := bth HB hq2; replace hF := hF.to hq2; clear f'; have f' := hF.cs5; replace hZ := hZ.to hq2; clear z'; have z' := hZ.cs5
 go_wp2_with fail
 refine (l1In_is n 1 3600 _ HI.out _).mono ?_
 rintro e w0 ⟨rfl, h0⟩
 rw [h0]
 clear h0 w0
 go_wp2_with fail
 refine (l8Share_is tu se s0m A2 ws.length c2 A3 c3 sh h3 s0m ⟨s0m, st, ss⟩ HSH.out _ (HR3.out.below (bth HB bel))).mono ?_
 rintro e w3 ⟨rfl, hb3⟩
 have hq3 := be w2 hb3; replace HB := bth HB hq3; replace hF := hF.to hq3; clear f'; have f' := hF.cs5; replace hZ := hZ.to hq3; clear z'; have z' := hZ.cs5; have szq2 := hq2.size; have szq3 := hq3.size
 have hw1 : IntKind.i64.wrap (se - ss) = se - ss := by rw [IntKind.wrap_i64]; omega
 have hw2 : IntKind.i64.wrap (ss + u) = ss + u := by rw [IntKind.wrap_i64]; omega
 have szb := HB.size
 go_upto_region 4 with fail
 refine lay1 fun wS hq4 hS => ?_
 replace HB := bth HB hq4; have s' := hS.cs3; clear f'; replace hF := hF.to hq4; have f' := hF.cs5; clear z'; replace hZ := hZ.to hq4; have z' := hZ.cs5
 go_wp2_with fail
 refine (l1Least_is n (se - ss) u HU.out _).mono ?_
 rintro e w0 ⟨rfl, h0⟩
 rw [h0]
 have fhS2 := hS.frozen 2
 go_upto_region 6 with fail
 clear f' z' s'
 refine st1 2 fun W2 tW2 => ?_
 replace HB := tW2.hc HB; replace hF := tW2.fa hF; replace hZ := tW2.fa hZ; replace hS : Blk W2 (w3.heap.size) 144 #[.int .i64 s0m, .int .i64 st, .int .i64 (ss + u)] := tW2.own hS; have f' := hF.cs5; have z' := hZ.cs5; have s' := hS.cs3; clear fhS2; have hs0' := hS.lt
 go_wp2_with fail
 refine (l8With_is tu se s0m A2 c2 ws A3 c3 sh h2 h3 HN2.out HN3.out HK3.out s0m st (ss + u) _ (HR2.out.below (bth HB bel)) (HR3.out.below (bth HB bel))).mono ?_
 rintro e w5 ⟨D2, d2, D3, d3, rfl, OO, hb5⟩
 have hq5 := be W2 hb5; replace HB := bth HB hq5; replace hF := hF.to hq5; clear f'; have f' := hF.cs5; replace hZ := hZ.to hq5; clear z'; have z' := hZ.cs5; replace hS := hS.to hq5; clear s'; have s' := hS.cs3; have szh := HB.size; have szq5 := hq5.size
 go_upto_region 7 with fail
 have hO4 := OO.later (bl1 w5 (.cells #[.int .i64 tu, .int .i64 se, .int .i64 s0m, .slice D2 ws.length d2, .slice D3 (setSh sh ⟨s0m, st, ss + u⟩).length d3] 29)); clear OO; have hq6 : Below w5.heap.size w5 (World.alloc w5 (.cells #[.int .i64 tu, .int .i64 se, .int .i64 s0m, .slice D2 ws.length d2, .slice D3 (setSh sh ⟨s0m, st, ss + u⟩).length d3] 29)) := bl1 w5 _
 have hX : Blk (World.alloc w5 (.cells #[.int .i64 tu, .int .i64 se, .int .i64 s0m, .slice D2 ws.length d2, .slice D3 (setSh sh ⟨s0m, st, ss + u⟩).length d3] 29)) (w5.heap.size) 29 #[.int .i64 tu, .int .i64 se, .int .i64 s0m, .slice D2 ws.length d2, .slice D3 (setSh sh ⟨s0m, st, ss + u⟩).length d3] := by repeat (first | exact Blk.new _ _ _ | exact Blk.new2 _ _ _ _ | exact Blk.new3 _ _ _ _ _ | exact Blk.new4 _ _ _ _ _ _ | refine Blk.alloc ?_ _)
 generalize World.alloc w5 (.cells #[.int .i64 tu, .int .i64 se, .int .i64 s0m, .slice D2 ws.length d2, .slice D3 (setSh sh ⟨s0m, st, ss + u⟩).length d3] 29) = wY at *
 replace HB := bth HB hq6; have x' := hX.cs5; clear f'; replace hF := hF.to hq6; have f' := hF.cs5; clear z'; replace hZ := hZ.to hq6; have z' := hZ.cs5; clear s'; replace hS := hS.to hq6; have s' := hS.cs3; have hx0 := hX.lt; have O2 := hO4.o2; have O3 := hO4.o3; clear hO4
 by_cases hfull : ss + u = se
 ·have hfb : (ss + u == se) = true := beq_iff_eq.2 hfull
  have e1 : (spF ⟨tu, se, s0m, ws, sh⟩ n).sp = 0 ∧ (spF ⟨tu, se, s0m, ws, sh⟩ n).sh = setSh (setSh sh ⟨s0m, st, ss + u⟩) ⟨s0m, st + 1, ss + u⟩ := by
   exact zb38
  have HE1 := lh e1; clear e1 hfull
  go_upto_region 8 with fail
  have HO2 := lh O2; have HO3 := lh O3
  go_wp2_with fail
  refine (l8Yield_is tu se s0m D2 d2 ws D3 d3 (setSh sh ⟨s0m, st, ss + u⟩) h2 (by have := HSET.out; omega) HO2.out.nilOk HO3.out.nilOk (own_cap HO2.out intC_len) (own_cap HO3.out sha_len) st (ss + u) HSF.out (by omega) (by omega) _ (HO2.out.rds intC_len) (HO3.out.rds sha_len)).mono ?_
  rintro e w7 ⟨E2, e2, E3, e3, rfl, OO, hb7⟩
  have hq7 := be wY hb7; replace HB := bth HB hq7; clear f'; replace hZ := hZ.to hq7; clear z'; have z' := hZ.cs5; clear s'; replace hX := hX.to hq7; clear x'; have x' := hX.cs5; have P2 := OO.o2; have P3 := OO.o3; have fhX' := hX.fz5; have neP2 := P2.nb hX; have neP3 := P3.nb hX
  go_upto_region 9 with fail
  clear z' x'
  refine st5 0 fun W8 tW8 => ?_
  replace HB := tW8.hc HB; replace hZ := tW8.fa hZ; replace hX := tW8.all5 hX; replace P2 := P2.keptS tW8 neP2; replace P3 := P3.keptS tW8 neP3; have z' := hZ.cs5; have x' := hX.cs5; clear neP2 neP3 fhX'; have fhZ' := hZ.fz5; have neP2 := P2.nb hZ; have neP3 := P3.nb hZ
  go_wp2
  clear z' x'
  refine st5 0 fun W9 tW9 => ?_
  replace HB := tW9.hc HB; replace hZ := tW9.all5 hZ; replace P2 := P2.keptS tW9 neP2; replace P3 := P3.keptS tW9 neP3; have z' := hZ.cs5
  refine bodyPost_ret (v := .tuple #[.agg #[.int .i64 tu, .int .i64 se, .int .i64 0, .slice E2 ws.length e2, .slice E3 (setSh (setSh sh ⟨s0m, st, ss + u⟩) ⟨s0m, st + 1, ss + u⟩).length e3], .int .i64 u, .bool true]) (by simp [results, Tryz.results158, go_sem, z']) rfl ?_
  rw [HE1.out.1, HE1.out.2]
  exact ⟨E2, e2, E3, e3, rfl, ⟨P2.base (by omega), P3.base (by omega), P2.apart P3 (by decide)⟩, HB⟩
 ·have hfb : (ss + u == se) = false := beq_eq_false_iff_ne.2 hfull
  have e1 : (spF ⟨tu, se, s0m, ws, sh⟩ n).sp = s0m ∧ (spF ⟨tu, se, s0m, ws, sh⟩ n).sh = setSh sh ⟨s0m, st, ss + u⟩ := by
   exact zb106
  have HE1 := lh e1; clear e1 hfull; have fhZ' := hZ.fz5; have neO2 := O2.nb hZ; have neO3 := O3.nb hZ
  go_wp2
  clear f' z' s' x'
  refine st5 0 fun W9 tW9 => ?_
  replace HB := tW9.hc HB; replace hZ := tW9.all5 hZ; replace O2 := O2.keptS tW9 neO2; replace O3 := O3.keptS tW9 neO3; have z' := hZ.cs5
  refine bodyPost_ret (v := .tuple #[.agg #[.int .i64 tu, .int .i64 se, .int .i64 s0m, .slice D2 ws.length d2, .slice D3 (setSh sh ⟨s0m, st, ss + u⟩).length d3], .int .i64 u, .bool true]) (by simp [results, Tryz.results158, go_sem, z']) rfl ?_
  rw [HE1.out.1, HE1.out.2]
  exact zb141
open Go.RowKit Go.G9
theorem withPending_is (A0 A1 A2 A3 A4 : Option Addr) (c0 c1 c2 c3 c4 : Nat) (rs : List Rul) (qs : List Que) (tu se sp : Int) (ws : List Int) (sh : List Sha) (os : List Out) (Z : MeeIn A0 A1 A2 A3 A4 c0 c1 c2 c3 c4 rs qs ws sh os) (LA : Option Addr) (LN LC : Nat) (w : World) (R : MeR w A0 A1 A2 A3 A4 rs qs ws sh os) :
 Calls Tryz.prog 167 #[.agg #[.slice A0 rs.length c0, .slice A1 qs.length c1, .int .i64 tu, .int .i64 se, .int .i64 sp, .slice A2 ws.length c2, .slice A3 sh.length c3, .slice A4 os.length c4], .slice LA LN LC] w fun e w' => ∃ D0 d0 D4 d4, e = .returned (.agg #[.slice D0 rs.length d0, .slice LA LN LC, .int .i64 tu, .int .i64 se, .int .i64 0, .slice none 0 0, .slice none 0 0, .slice D4 os.length d4]) ∧ OwnV w.heap.size 48 7 Rul.cells w' (.slice D0 rs.length d0) rs ∧ OwnV w.heap.size 44 3 Out.cells w' (.slice D4 os.length d4) os ∧ Below w.heap.size w w' := by
 have HR := lh R; have HZ := lh Z; clear R Z
 go_in
 go_upto_region 1 with fail
 refine lay2 fun wX hq1 hF hZ => ?_
 have HB := hq1; have f' := hF.cs8; have z' := hZ.cs8; have hz0' := hZ.lt
 go_wp2_with fail
 refine (newMee_is A0 A1 A2 A3 A4 c0 c1 c2 c3 c4 rs qs tu se sp ws sh os HZ.out _ (HR.out.below (bth HB bel))).mono ?_
 rintro e w2 ⟨D0, d0, D1, d1, D2, d2, D3, d3, D4, d4, rfl, OO, hb2⟩
 have hq2 := be wX hb2; replace HB := bth HB hq2; replace hF := hF.to hq2; clear f'; have f' := hF.cs8; replace hZ := hZ.to hq2; clear z'; have z' := hZ.cs8; have szq := hq2.size; have szh := HB.size
 go_upto_region 2 with fail
 have O4' := OO.later (bl1 w2 (.cells #[.slice D0 rs.length d0, .slice D1 qs.length d1, .int .i64 tu, .int .i64 se, .int .i64 sp, .slice D2 ws.length d2, .slice D3 sh.length d3, .slice D4 os.length d4] 32)); clear OO; have hq3 : Below w2.heap.size w2 (World.alloc w2 (.cells #[.slice D0 rs.length d0, .slice D1 qs.length d1, .int .i64 tu, .int .i64 se, .int .i64 sp, .slice D2 ws.length d2, .slice D3 sh.length d3, .slice D4 os.length d4] 32)) := bl1 w2 _
 have hX : Blk (World.alloc w2 (.cells #[.slice D0 rs.length d0, .slice D1 qs.length d1, .int .i64 tu, .int .i64 se, .int .i64 sp, .slice D2 ws.length d2, .slice D3 sh.length d3, .slice D4 os.length d4] 32)) (w2.heap.size) 32 #[.slice D0 rs.length d0, .slice D1 qs.length d1, .int .i64 tu, .int .i64 se, .int .i64 sp, .slice D2 ws.length d2, .slice D3 sh.length d3, .slice D4 os.length d4] := by repeat (first | exact Blk.new _ _ _ | exact Blk.new2 _ _ _ _ | exact Blk.new3 _ _ _ _ _ | exact Blk.new4 _ _ _ _ _ _ | refine Blk.alloc ?_ _)
 generalize World.alloc w2 (.cells #[.slice D0 rs.length d0, .slice D1 qs.length d1, .int .i64 tu, .int .i64 se, .int .i64 sp, .slice D2 ws.length d2, .slice D3 sh.length d3, .slice D4 os.length d4] 32) = w4 at *
 replace HB := bth HB hq3; have x' := hX.cs8; clear f'; replace hF := hF.to hq3; have f' := hF.cs8; clear z'; replace hZ := hZ.to hq3; have z' := hZ.cs8; have O0 := O4'.o0; have O4 := O4'.o4; clear O4'; have fhX1 := hX.frozen 1
 go_upto_region 3 with fail
 have neO0 := O0.nb hX; have neO4 := O4.nb hX; clear f' z' x'
 refine st1 1 fun W5 tW5 => ?_
 replace HB := tW5.hc HB; replace hF := tW5.fa hF; replace hZ := tW5.fa hZ; replace hX : Blk W5 (w2.heap.size) 32 #[.slice D0 rs.length d0, .slice LA LN LC, .int .i64 tu, .int .i64 se, .int .i64 sp, .slice D2 ws.length d2, .slice D3 sh.length d3, .slice D4 os.length d4] := tW5.own hX; replace O0 := O0.keptS tW5 neO0; replace O4 := O4.keptS tW5 neO4; have f' := hF.cs8; have z' := hZ.cs8; have x' := hX.cs8
 clear fhX1; have fhX2 := hX.frozen 2; have fhX3 := hX.frozen 3; have fhX4 := hX.frozen 4; have fhX5 := hX.frozen 5; have fhX6 := hX.frozen 6
 go_upto_region 4 with fail
 clear f' z' x'
 refine st5 2 fun W6 tW6 => ?_
 replace HB := tW6.hc HB; replace hZ := tW6.fa hZ; replace hX : Blk W6 (w2.heap.size) 32 #[.slice D0 rs.length d0, .slice LA LN LC, .int .i64 tu, .int .i64 se, .int .i64 0, .slice none 0 0, .slice none 0 0, .slice D4 os.length d4] := tW6.own hX; replace O0 := O0.keptS tW6 (fun k hk => by first | exact neO0 k hk | (have := O0.lt k hk; omega)); replace O4 := O4.keptS tW6 (fun k hk => by first | exact neO4 k hk | (have := O4.lt k hk; omega))
 have z' := hZ.cs8; have x' := hX.cs8; clear fhX2 fhX3 fhX4 fhX5 fhX6 neO0 neO4; have fhZ' := hZ.fz8; have neO0 := O0.nb hZ; have neO4 := O4.nb hZ
 go_wp2
 clear z' x'
 refine st8 0 fun W9 tW9 => ?_
 replace HB := tW9.hc HB; replace hZ := tW9.all8 hZ; replace O0 := O0.keptS tW9 neO0; replace O4 := O4.keptS tW9 neO4; have z' := hZ.cs8
 exact brt ⟨D0, d0, D4, d4, rfl, O0.base (by omega), O4.base (by omega), HB⟩ (by simp [results, Tryz.results167, go_sem, z'])
theorem l25Pending_is (A0 A1 A2 A3 A4 : Option Addr) (c0 c1 c2 c3 c4 : Nat) (rs : List Rul) (qs : List Que) (tu se sp : Int) (ws : List Int) (sh : List Sha) (os : List Out) (Z : MeeIn A0 A1 A2 A3 A4 c0 c1 c2 c3 c4 rs qs ws sh os) (LA : Option Addr) (LN LC : Nat) (w : World) (R : MeR w A0 A1 A2 A3 A4 rs qs ws sh os) :
 Calls Tryz.prog 116 #[.agg #[.slice A0 rs.length c0, .slice A1 qs.length c1, .int .i64 tu, .int .i64 se, .int .i64 sp, .slice A2 ws.length c2, .slice A3 sh.length c3, .slice A4 os.length c4], .slice LA LN LC] w fun e w' => ∃ D0 d0 D4 d4, e = .returned (.agg #[.slice D0 rs.length d0, .slice LA LN LC, .int .i64 tu, .int .i64 se, .int .i64 0, .slice none 0 0, .slice none 0 0, .slice D4 os.length d4]) ∧ OwnV w.heap.size 48 7 Rul.cells w' (.slice D0 rs.length d0) rs ∧ OwnV w.heap.size 44 3 Out.cells w' (.slice D4 os.length d4) os ∧ Below w.heap.size w w' := by
 have HR := lh R; have HZ := lh Z; clear R Z
 go_in
 go_upto_region 1 with fail
 refine lay2 fun wX hq1 hF hZ => ?_
 have HB := hq1; have f' := hF.cs8; have z' := hZ.cs8; have hz0' := hZ.lt
 go_wp2_with fail
 refine (l25Own_is A0 A1 A2 A3 A4 c0 c1 c2 c3 c4 rs qs tu se sp ws sh os HZ.out _ (HR.out.below (bth HB bel))).mono ?_
 rintro e w2 ⟨D0, d0, D1, d1, D2, d2, D3, d3, D4, d4, rfl, OO, hb2⟩
 have hq2 := be wX hb2; replace HB := bth HB hq2; replace hF := hF.to hq2; clear f'; have f' := hF.cs8; replace hZ := hZ.to hq2; clear z'; have z' := hZ.cs8; have szq := hq2.size; have szh := HB.size
 go_upto_region 2 with fail
 have O4' := OO.later (bl1 w2 (.cells #[.slice D0 rs.length d0, .slice D1 qs.length d1, .int .i64 tu, .int .i64 se, .int .i64 sp, .slice D2 ws.length d2, .slice D3 sh.length d3, .slice D4 os.length d4] 32)); clear OO; have hq3 : Below w2.heap.size w2 (World.alloc w2 (.cells #[.slice D0 rs.length d0, .slice D1 qs.length d1, .int .i64 tu, .int .i64 se, .int .i64 sp, .slice D2 ws.length d2, .slice D3 sh.length d3, .slice D4 os.length d4] 32)) := bl1 w2 _
 have hX : Blk (World.alloc w2 (.cells #[.slice D0 rs.length d0, .slice D1 qs.length d1, .int .i64 tu, .int .i64 se, .int .i64 sp, .slice D2 ws.length d2, .slice D3 sh.length d3, .slice D4 os.length d4] 32)) (w2.heap.size) 32 #[.slice D0 rs.length d0, .slice D1 qs.length d1, .int .i64 tu, .int .i64 se, .int .i64 sp, .slice D2 ws.length d2, .slice D3 sh.length d3, .slice D4 os.length d4] := by repeat (first | exact Blk.new _ _ _ | exact Blk.new2 _ _ _ _ | exact Blk.new3 _ _ _ _ _ | exact Blk.new4 _ _ _ _ _ _ | refine Blk.alloc ?_ _)
 generalize World.alloc w2 (.cells #[.slice D0 rs.length d0, .slice D1 qs.length d1, .int .i64 tu, .int .i64 se, .int .i64 sp, .slice D2 ws.length d2, .slice D3 sh.length d3, .slice D4 os.length d4] 32) = w4 at *
 replace HB := bth HB hq3; have x' := hX.cs8; clear f'; replace hF := hF.to hq3; have f' := hF.cs8; clear z'; replace hZ := hZ.to hq3; have z' := hZ.cs8; have O0 := O4'.o0; have O4 := O4'.o4; clear O4'; have fhX1 := hX.frozen 1
 go_upto_region 3 with fail
 have neO0 := O0.nb hX; have neO4 := O4.nb hX; clear f' z' x'
 refine st1 1 fun W5 tW5 => ?_
 replace HB := tW5.hc HB; replace hF := tW5.fa hF; replace hZ := tW5.fa hZ; replace hX : Blk W5 (w2.heap.size) 32 #[.slice D0 rs.length d0, .slice LA LN LC, .int .i64 tu, .int .i64 se, .int .i64 sp, .slice D2 ws.length d2, .slice D3 sh.length d3, .slice D4 os.length d4] := tW5.own hX; replace O0 := O0.keptS tW5 neO0; replace O4 := O4.keptS tW5 neO4; have f' := hF.cs8; have z' := hZ.cs8; have x' := hX.cs8
 clear fhX1; have fhX2 := hX.frozen 2; have fhX3 := hX.frozen 3; have fhX4 := hX.frozen 4; have fhX5 := hX.frozen 5; have fhX6 := hX.frozen 6
 go_upto_region 4 with fail
 clear f' z' x'
 refine st5 2 fun W6 tW6 => ?_
 replace HB := tW6.hc HB; replace hZ := tW6.fa hZ; replace hX : Blk W6 (w2.heap.size) 32 #[.slice D0 rs.length d0, .slice LA LN LC, .int .i64 tu, .int .i64 se, .int .i64 0, .slice none 0 0, .slice none 0 0, .slice D4 os.length d4] := tW6.own hX; replace O0 := O0.keptS tW6 (fun k hk => by first | exact neO0 k hk | (have := O0.lt k hk; omega)); replace O4 := O4.keptS tW6 (fun k hk => by first | exact neO4 k hk | (have := O4.lt k hk; omega))
 have z' := hZ.cs8; have x' := hX.cs8; clear fhX2 fhX3 fhX4 fhX5 fhX6 neO0 neO4; have fhZ' := hZ.fz8; have neO0 := O0.nb hZ; have neO4 := O4.nb hZ
 go_wp2
 clear z' x'
 refine st8 0 fun W9 tW9 => ?_
 replace HB := tW9.hc HB; replace hZ := tW9.all8 hZ; replace O0 := O0.keptS tW9 neO0; replace O4 := O4.keptS tW9 neO4; have z' := hZ.cs8
 exact brt ⟨D0, d0, D4, d4, rfl, O0.base (by omega), O4.base (by omega), HB⟩ (by simp [results, Tryz.results116, go_sem, z'])
end Go.Proofs.YtjimibkgocieoaaGreat
