/- Texts of the proof: walks of the functions, and what they compute. -/
import Derived.Deep.Cut
import Derived.Test.YtjimibkgocieoaaGreatRb7
import Derived.Test.YtjimibkgocieoaaGreatRb9
import Derived.Test.YtjimibkgocieoaaGreatRb0
import Derived.Test.YtjimibkgocieoaaGreatRb6
import Derived.Test.YtjimibkgocieoaaGreatRb3
import Derived.Laws.NewBlocks
import Derived.Lib.AppendZerosOnto
import Derived.Lib.Overlaps
import Derived.Test.YtjimibkgocieoaaGreatRb5
set_option maxHeartbeats 16000000
set_option maxRecDepth 100000
namespace Go.Proofs.YtjimibkgocieoaaGreat
open Go.RowKit Go.G9
theorem cpInts_is (A : Option Addr) (c : Nat) (xs : List Int) (hn : xs.length ≤ 1048576) (hA : A = none → xs = [] ∧ c = 0) (w : World) (hR : Rds 1 intC w A xs) :
 Calls Tryz.prog 188 #[.slice A xs.length c] w fun e w' => ∃ A' c', e = .returned (.slice A' xs.length c') ∧ OwnV w.heap.size 3 1 intC w' (.slice A' xs.length c') xs ∧ Below w.heap.size w w' := by
 obtain ⟨i0, hi, hz0, hz1, hz2⟩ := info_parts info_int
 exact zb38
theorem sha_len (x : Sha) : (Sha.cells x).length = 3 := rfl
theorem sha_one (x : Sha) : ∀ u, u ∈ Sha.cells x → u.oneCell' = true := by
 intro u hu
 simp only [Sha.cells, List.mem_cons, List.not_mem_nil, or_false] at hu
 rcases hu with rfl | rfl | rfl <;> rfl
structure FlO (B : Nat) (w : World) (D2 : Option Addr) (d2 : Nat) (D3 : Option Addr) (d3 : Nat) (ws : List Int) (sh : List Sha) : Prop where
 o2 : OwnV B 3 1 intC w (.slice D2 ws.length d2) ws
 o3 : OwnV B 144 3 Sha.cells w (.slice D3 sh.length d3) sh
 ap : ∀ k, (Value.slice D2 ws.length d2).ownBlock = some k → some k ≠ (Value.slice D3 sh.length d3).ownBlock
theorem FlO.later {B : Nat} {w w' : World} {D2 : Option Addr} {d2 : Nat} {D3 : Option Addr} {d3 : Nat} {ws : List Int} {sh : List Sha} (h : FlO B w D2 d2 D3 d3 ws sh) (hb : Below w.heap.size w w') : FlO B w' D2 d2 D3 d3 ws sh := ⟨h.o2.later hb, h.o3.later hb, h.ap⟩
theorem FlO.base {B B' : Nat} {w : World} {D2 : Option Addr} {d2 : Nat} {D3 : Option Addr} {d3 : Nat} {ws : List Int} {sh : List Sha} (h : FlO B w D2 d2 D3 d3 ws sh) (hb : B' ≤ B) : FlO B' w D2 d2 D3 d3 ws sh := ⟨h.o2.base hb, h.o3.base hb, h.ap⟩
theorem flO_nil {B : Nat} {w : World} : FlO B w none 0 none 0 [] [] := ⟨OwnV.nil, OwnV.nil, fun k h => by cases h⟩
theorem newFloor_is (tu se sp : Int) (A2 : Option Addr) (c2 : Nat) (ws : List Int) (A3 : Option Addr) (c3 : Nat) (sh : List Sha) (h2 : ws.length ≤ 1048576) (h3 : sh.length ≤ 1048576) (n2 : A2 = none → ws = [] ∧ c2 = 0) (n3 : A3 = none → sh = [] ∧ c3 = 0) (w : World) (R2 : Rds 1 intC w A2 ws) (R3 : Rds 3 Sha.cells w A3 sh) :
 Calls Tryz.prog 134 #[.agg #[.int .i64 tu, .int .i64 se, .int .i64 sp, .slice A2 ws.length c2, .slice A3 sh.length c3]] w fun e w' => ∃ D2 d2 g3 d3, e = .returned (.agg #[.int .i64 tu, .int .i64 se, .int .i64 sp, .slice D2 ws.length d2, .slice (some ⟨g3, 0, none⟩) sh.length d3]) ∧ FlO w.heap.size w' D2 d2 (some ⟨g3, 0, none⟩) d3 ws sh ∧ Below w.heap.size w w' := by
 obtain ⟨i0, hi, hz0, hz1, hz2⟩ := info_parts info_Sha
 have HR2 := lh R2; have HR3 := lh R3; have HN2 := lh n2; have HN3 := lh n3; clear R2 R3 n2 n3
 go_in
 go_upto_region 1 with fail
 refine lay2 fun wX hq1 hF hZ => ?_
 have HB := hq1; have f' := hF.cs5; have z' := hZ.cs5; have hz0' := hZ.lt
 go_wp2_with fail
 refine (cpInts_is A2 c2 ws h2 HN2.out _ (HR2.out.below (bth HB bel))).mono ?_
 rintro e w2 ⟨D2, d2, rfl, O2, hb2⟩
 have hq2 := be wX hb2; replace HB := bth HB hq2; replace hF := hF.to hq2; clear f'; have f' := hF.cs5; replace hZ := hZ.to hq2; clear z'; have z' := hZ.cs5; have fhF3 := hF.frozen 3; have yhF := hF.lt; have yhZ := hZ.lt
 go_upto_region 2 with fail
 clear f' z'
 refine st1 3 fun W2 tW2 => ?_
 replace HB := tW2.hc HB; replace hF : Blk W2 (w.heap.size) 29 #[.int .i64 tu, .int .i64 se, .int .i64 sp, .slice D2 ws.length d2, .slice A3 sh.length c3] := tW2.own hF; replace hZ := tW2.fa hZ; replace O2 := O2.keptS tW2 (fun k hk => by first | exact neO2 k hk | (have := O2.lt k hk; omega)); have f' := hF.cs5; have z' := hZ.cs5
 have hap : ∀ k, (Value.slice D2 ws.length d2).ownBlock = some k → k < W2.heap.size := fun k hk => (O2.lt k hk).2
 have yhF := hF.lt; have yhZ := hZ.lt; have HAP := lh hap; clear hap; have HR3' := lh (fun e => (HR3.out.below (bth HB (bl1 W2 (.cells #[] e)))) : ∀ e : TypeId, Rds 3 Sha.cells (W2.alloc (.cells #[] e)) A3 sh); have hn3 := HN3.out
 go_upto_region 3 with ((at_builtin; refine wpList_appO rfl _ _ 27 rfl W2.heap.size 144 i0 _ 3 24 Tryz.underlying27 hi hz0 hz1 hz2 rfl (by decide) Sha.cells sha_len sha_one W2.heap.size rfl (Blk.new _ _ _) (Nat.le_refl _) A3 c3 sh rfl (HR3'.out _) hn3 (by unfold maxLen; omega) (by omega) ?_; intro g3 d3 w3 O3 hb3; have hbq : Below W2.heap.size W2 w3 := bth (bl1 _ _) hb3; have hF3 := hF.to hbq; have fz3 := hF3.frozen 4; have fc3 := (hF3.cell 4).trans (show _ = some (Value.slice A3 sh.length c3) from rfl)))
 clear hF3 fz3 fc3 hn3; have hq3 := be W2 hb3; replace HB := bth HB hq3; replace O2 := O2.later hq3; replace hF := hF.to hq3; clear f'; have f' := hF.cs5; replace hZ := hZ.to hq3; clear z'; have z' := hZ.cs5; have hlo := (O3.lt g3 rfl).1; clear f' z'
 refine st1 4 fun W3 tW3 => ?_
 replace HB := tW3.hc HB; replace hF : Blk W3 (w.heap.size) 29 #[.int .i64 tu, .int .i64 se, .int .i64 sp, .slice D2 ws.length d2, .slice (some ⟨g3, 0, none⟩) sh.length d3] := tW3.own hF; replace hZ := tW3.fa hZ; replace O2 := O2.keptS tW3 (fun k hk => by first | exact neO2 k hk | (have := O2.lt k hk; omega)); replace O3 := O3.keptS tW3 (fun k hk => by first | exact neO3 k hk | (have := O3.lt k hk; omega))
 have f' := hF.cs5; have z' := hZ.cs5; have fhZ' := hZ.fz5
 go_wp2
 clear f' z'
 refine st5 0 fun W9 tW9 => ?_
 replace HB := tW9.hc HB; replace hZ := tW9.all5 hZ; replace O2 := O2.keptS tW9 (fun k hk => by first | exact neO2 k hk | (have := O2.lt k hk; omega)); replace O3 := O3.keptS tW9 (fun k hk => by first | exact neO3 k hk | (have := O3.lt k hk; omega)); have z' := hZ.cs5
 exact brt ⟨D2, d2, g3, d3, rfl, ⟨O2.base (by omega), O3.base (by omega), fun k hk e => by have h5 := HAP.out k hk; have h6 : k = g3 := Option.some.inj e; omega⟩, HB⟩ (by simp [results, Tryz.results134, go_sem, z'])
end Go.Proofs.YtjimibkgocieoaaGreat
namespace Go.G9
open Go.RowKit
theorem wpList_appO2 {P : Program} {w : World} {ops : Array Oper} {rest : List Oper} {o : Oper} {a : Act} {Q : Exit → Act → World → Prop} (hgd : o.guard = none) (s x : Operand) (t : TypeId)
  (ho : o.op = .call { callee := .builtin .append, args := #[s, x], argTypes := #[t, t] })
  (B : Nat) (e : TypeId) (i : TypeInfo) (z : Value) (sz bytes : Nat) (ht : P.underlying t = some (.slice e)) (hi : P.info? e = some i) (hz : i.zero = some z)
  (hsize : i.size = sz) (hby : i.bytes = bytes) (hzs : z.cells.size = sz) (hsz : 0 < sz) {T : Type} (f : T → List Value) (hf : ∀ y, (f y).length = sz) (hone : ∀ y u, u ∈ f y → u.oneCell' = true)
  (g : Nat) (hs : a.eval s = .slice (some ⟨g, 0, none⟩) 0 0) (hg : Blk w g e #[]) (hBg : B ≤ g) (A2 : Option Addr) (c2 : Nat) (ys : List T) (hx : a.eval x = .slice A2 ys.length c2) (hR : Rds sz f w A2 ys) (hA : A2 = none → ys = [] ∧ c2 = 0)
  (h63 : ys.length ≤ maxLen) (hbytes : ys.length * bytes ≤ 140737488355328)
  (h : ∀ g' c' w', OwnV B e sz f w' (.slice (some ⟨g', 0, none⟩) ys.length c') ys → Below w.heap.size w w' → (g' = g ∨ w.heap.size ≤ g') → wpList P ops Q rest (a.put o.dst (.slice (some ⟨g', 0, none⟩) ys.length c')) w') : wpList P ops Q (o :: rest) a w := by
 cases A2 with
 | some ad => exact wpList_appE hgd s x t ho B e i z sz bytes ht hi hz hsize hby hzs hsz f hf hone g hs hg hBg ad c2 ys hx hR h63 hbytes (fun g' c' w' h1 h2 h3 => h g' c' w' h1 h2 h3)
 | none =>
  obtain ⟨rfl, rfl⟩ := hA rfl
  have hO : OwnV B e sz f w (.slice (some ⟨g, 0, none⟩) 0 0) ([] : List T) := OwnV.ofBlk (xs := []) (cap := 0) hg hBg (Nat.le_refl _) (Nat.zero_le _) (by simp) (fun i x hx => by simp at hx) hf
  exact wpList_append_own_none hgd s x t ho B e i sz ht hi (.slice (some ⟨g, 0, none⟩) 0 0) 0 [] hs hO hx (h g 0 w hO (Below.refl _ _) (.inl rfl))
end Go.G9
namespace Go.Proofs.YtjimibkgocieoaaGreat
open Go.RowKit Go.G9
def loS (ws : List Int) (sh : List Sha) : MkSpec (Option Addr × Nat) where
 par := fun n => match n with
  | 12 => [9]
  | _ => []
 val := fun n p => match n with
  | 8 => .slice p.1 ws.length p.2
  | 9 => .slice p.1 0 0
  | 12 => .slice p.1 sh.length p.2
  | _ => undef
 post := fun n σ p V0 V => match n with
  | 8 => OwnV V0.heap.size 3 1 intC V (.slice p.1 ws.length p.2) ws
  | 9 => p.1 = some ⟨V0.heap.size, 0, none⟩ ∧ Blk V V0.heap.size 144 #[]
  | 12 => ∃ g g', (σ 9).1 = some ⟨g, 0, none⟩ ∧ p.1 = some ⟨g', 0, none⟩ ∧ (g' = g ∨ V0.heap.size ≤ g') ∧ OwnV g 144 3 Sha.cells V (.slice p.1 sh.length p.2) sh
  | _ => True
theorem l8Own_is (tu se sp : Int) (A2 : Option Addr) (c2 : Nat) (ws : List Int) (A3 : Option Addr) (c3 : Nat) (sh : List Sha) (h2 : ws.length ≤ 1048576) (h3 : sh.length ≤ 1048576) (n2 : A2 = none → ws = [] ∧ c2 = 0) (n3 : A3 = none → sh = [] ∧ c3 = 0) (w : World) (R2 : Rds 1 intC w A2 ws) (R3 : Rds 3 Sha.cells w A3 sh) :
 Calls Tryz.prog 135 #[.agg #[.int .i64 tu, .int .i64 se, .int .i64 sp, .slice A2 ws.length c2, .slice A3 sh.length c3]] w fun e w' => ∃ D2 d2 D3 d3, e = .returned (.agg #[.int .i64 tu, .int .i64 se, .int .i64 sp, .slice D2 ws.length d2, .slice D3 sh.length d3]) ∧ FlO w.heap.size w' D2 d2 D3 d3 ws sh ∧ Below w.heap.size w w' := by
 obtain ⟨i0, hi, hz0, hz1, hz2⟩ := info_parts info_Sha
 have HR2 := lh R2; have HR3 := lh R3; have HN2 := lh n2; have HN3 := lh n3; clear R2 R3 n2 n3
 go_in
 go_upto_region 1 with fail
 refine lay2 fun wX hq1 hF hZ => ?_
 have HB := hq1; have f' := hF.cs5; have z' := hZ.cs5; have hz0' := hZ.lt; have hn3 := HN3.out
 obtain ⟨CC2, hCC2⟩ : ∃ X : World → Prop, ∀ V, X V ↔ (Below w.heap.size w V ∧ Blk V (w.heap.size) 29 #[.int .i64 tu, .int .i64 se, .int .i64 sp, .slice A2 ws.length c2, .slice A3 sh.length c3]) := ⟨_, fun _ => Iff.rfl⟩
 have HCC2 := lh hCC2; clear hCC2
 haveI : Nonempty (Hld CC2) := ⟨⟨wX, ((HCC2.out _).2 ⟨HB, hF⟩)⟩⟩
 clear f'; clear z'; have f' := Blk.cs5K (fun K : Hld CC2 => ((HCC2.out _).1 K.holds).2)
 go_wp2
 refine wp_region_mk (loS ws sh) CC2 [([0, 1, 2, 3, 4, 5, 6, 7], 8), ([], 9), ([10, 11], 12)] [13] [([], 14)] [] (by kernel_rfl) (by kernel_rfl) ((HCC2.out _).2 ⟨HB.drew, hF⟩) (fun W W' h k => ((HCC2.out _).2 ⟨((HCC2.out _).1 h).1.trans (k.mono ((HCC2.out _).1 h).1.size), ((HCC2.out _).1 h).2.below k ((HCC2.out _).1 h).2.lt⟩)) ?_
 intro σ
 refine wpMk1_cons (some 11) rfl (.slice (σ 8).1 ws.length (σ 8).2) rfl fun K1 hK1 => ?_
 change wpQuiet _ _ _ _ (_ :: _ :: _ :: _ :: _ :: _ :: _ :: _ :: []) _
 repeat (go_big_quiet_step (fail))
 refine wpQuiet_nil ?_
 refine ⟨fun k hpar => ?_, hK1 _ ?_⟩
 ·change wpList _ _ _ (_ :: []) _ _
  go_wp2_with fail
  refine (l1Own_is A2 c2 ws h2 HN2.out _ (HR2.out.below ((HCC2.out _).1 k.holds).1)).mono ?_
  rintro e w9 ⟨D2, d2, rfl, O2, hb9⟩
  go_wp2
  exact Nrm_mk ⟨(D2, d2), rfl, hb9, O2⟩
 simp only [Act.put]
 go_simp
 refine wpMk1_cons (some 12) rfl (.slice (σ 9).1 0 0) rfl fun K1 hK1 => ?_
 change wpQuiet _ _ _ _ ([]) _
 refine wpQuiet_nil ?_
 refine ⟨fun k hpar => ?_, hK1 _ ?_⟩
 ·change wpList _ _ _ (_ :: []) _ _
  go_wp2
  exact Nrm_mk ⟨(some ⟨k.world.heap.size, 0, none⟩, 0), rfl, bl1 _ _, rfl, Blk.new _ _ _⟩
 simp only [Act.put]
 go_simp
 refine wpMk1_cons (some 15) rfl (.slice (σ 12).1 sh.length (σ 12).2) rfl fun K1 hK1 => ?_
 change wpQuiet _ _ _ _ (_ :: _ :: []) _
 repeat (go_big_quiet_step (fail))
 refine wpQuiet_nil ?_
 refine ⟨fun k hpar => ?_, hK1 _ ?_⟩
 ·change wpList _ _ _ (_ :: []) _ _
  obtain ⟨U0, U, hU1, ⟨hU2, hU4⟩, hU5⟩ := hpar 9 (by simp [loS])
  have hU6 := hU4.to hU5; have hU7 : (σ 9).1 = some ⟨U0.heap.size, 0, none⟩ := hU2; have HUR := lh (HR3.out.below ((HCC2.out _).1 k.holds).1); have HU6 := lh hU6; clear hU6 hU4 hU2 hU1 hU5 hpar
  rw [hU7]
  have HU7 := lh hU7; clear hU7
  go_wp2_with ((at_builtin; refine wpList_appO2 rfl _ _ 27 rfl U0.heap.size 144 i0 _ 3 24 Tryz.underlying27 hi hz0 hz1 hz2 rfl (by decide) Sha.cells sha_len sha_one U0.heap.size rfl HU6.out (Nat.le_refl _) A3 c3 sh rfl HUR.out hn3 (by unfold maxLen; omega) (by omega) ?_; intro g' c' w' hO' hb' hg'))
  first | exact Nrm_mk ⟨(some ⟨g', 0, none⟩, c'), rfl, hb', U0.heap.size, g', HU7.out, rfl, hg', hO'⟩ | exact Nrm_mk ⟨some ⟨g', 0, none⟩, c', rfl, hb', U0.heap.size, g', HU7.out, rfl, hg', hO'⟩
 simp only [Act.put]
 go_simp
 refine wpMk1_last ?_
 change wpQuiet _ _ _ _ (_ :: []) _
 repeat (go_big_quiet_step (fail))
 refine wpQuiet_nil ?_
 intro V0 V W hM hW
 have hP2 : OwnV (V0 8).heap.size 3 1 intC (V 8) (.slice (σ 8).1 ws.length (σ 8).2) ws := hM.post 8 (by simp)
 obtain ⟨g, g', e9, e12, hgg, hO3⟩ : ∃ g g', (σ 9).1 = some ⟨g, 0, none⟩ ∧ (σ 12).1 = some ⟨g', 0, none⟩ ∧ (g' = g ∨ (V0 12).heap.size ≤ g') ∧ OwnV g 144 3 Sha.cells (V 12) (.slice (σ 12).1 sh.length (σ 12).2) sh := hM.post 12 (by simp)
 obtain ⟨e9', hB9⟩ : (σ 9).1 = some ⟨(V0 9).heap.size, 0, none⟩ ∧ Blk (V 9) (V0 9).heap.size 144 #[] := hM.post 9 (by simp)
 have eg : (V0 9).heap.size = g := by rw [e9'] at e9; exact congrArg Addr.block (Option.some.inj e9)
 have hg9 : g < (V 9).heap.size := eg ▸ hB9.lt; have s8 := (hM.from0 8 (by simp)).size; have s9 := (hM.from0 9 (by simp)).size; have a1 := hM.apart 8 (by simp) 9 (by simp) (by decide); have a2 := hM.apart 8 (by simp) 12 (by simp) (by decide); have O2 := (hP2.later (hM.later 8 (by simp))).base (B' := wX.heap.size) s8; have O3 := (hO3.later (hM.later 12 (by simp))).base (B' := wX.heap.size) (by rw [← eg]; exact s9)
 have hap : ∀ k, (Value.slice (σ 8).1 ws.length (σ 8).2).ownBlock = some k → some k ≠ (Value.slice (σ 12).1 sh.length (σ 12).2).ownBlock := fun k hk e => by
  have h5 := hP2.lt k hk
  rw [e12] at e
  have h6 : k = g' := Option.some.inj e; have h10 := hO3.lt g' (by rw [e12]; rfl)
  rcases hgg with h | h <;> rcases a1 with h1 | h1 <;> rcases a2 with h2 | h2 <;> omega
 have HAP := lh hap; clear f'; have hq3 : Below wX.heap.size wX W := bth bel (hM.whole 8 (by simp)).undrew; replace HB := bth HB hq3; replace hF := hF.to hq3; replace hZ := hZ.to hq3; have z' := hZ.cs5; clear hM hP2 hO3 hB9 hap hW a1 a2 s8 s9 hg9 eg e9 e9' e12 hgg
 generalize σ 8 = p8 at *
 generalize σ 12 = p12 at *
 obtain ⟨D2, d2⟩ := p8
 obtain ⟨D3, d3⟩ := p12
 refine wpMix_cons fun K2 hK2 => ?_
 change wpQuiet _ _ _ _ ([]) _
 refine wpQuiet_nil ?_
 change wpList _ _ _ (_ :: []) _ _
 have fhZ' := hZ.fz5
 go_wp2
 clear z'
 refine st5 0 fun W9 tW9 => ?_
 replace HB := tW9.hc HB; replace hF := tW9.fa hF; replace hZ := tW9.all5 hZ; replace O2 := O2.keptS tW9 (fun k hk => by first | exact neO2 k hk | (have := O2.lt k hk; omega)); replace O3 := O3.keptS tW9 (fun k hk => by first | exact neO3 k hk | (have := O3.lt k hk; omega)); have z' := hZ.cs5
 refine Nrm_intro (((HCC2.out _).2 ⟨HB, hF⟩)) (hK2 _ _ ?_)
 refine wpMix_last ?_
 change wpQuiet _ _ _ _ ([]) _
 refine wpQuiet_nil ?_
 go_wp2
 exact brt ⟨D2, d2, D3, d3, rfl, ⟨O2.base (by omega), O3.base (by omega), HAP.out⟩, HB⟩ (by simp [results, Tryz.results135, go_sem, z'])
end Go.Proofs.YtjimibkgocieoaaGreat
namespace Go.G9
open Go.RowKit
theorem run_copyB {P : Program} (w : World) (dT sT ty elem : TypeId) (i : TypeInfo) (g o m dLen dCap : Nat) (a : Addr) (sLen sCap : Nat) (cur : Array Value) (t : TypeId) (cs : List Value)
  (hu : P.underlying dT = some (.slice elem)) (hi : P.info? elem = some i) (hg : Blk w g t cur) (hm : Nat.min sLen dLen = m) (hn : cs.length = m * i.size)
  (hsrc : ∀ j v, cs[j]? = some v → w.cell? (a.add j) = some v) (hfit : o + cs.length ≤ cur.size) (h1 : ∀ v ∈ cs, v.oneCell' = true) :
  (Builtin.copy_ #[dT, sT] ty #[.slice (some ⟨g, o, none⟩) dLen dCap, .slice (some a) sLen sCap]).run P w =
   .ok (goInt m) (w.setRow g (cur.toList.take o ++ cs ++ cur.toList.drop (o + cs.length)).toArray) := by
 have hl := run_loadCells_list (P := P) w a cs hsrc; have hst := run_storeCells_at (P := P) g o t cs 0 cur w hg (by simpa using hfit) h1
 simp [Builtin.copy_, run_underlying hu, Builtin.lenOf, Builtin.firstCells, sizeOf, typeInfo, hi, hm, ← hn, hl, hst]
theorem wpList_copyB {P : Program} (w : World) {ops : Array Oper} {rest : List Oper} {o : Oper} {a : Act} {Q : Exit → Act → World → Prop} (hgd : o.guard = none) (d s : Operand) (t t' : TypeId)
  (ho : o.op = .call { callee := .builtin .copy, args := #[d, s], argTypes := #[t, t'] }) (v u : Value) (hd : a.eval d = v) (hs : a.eval s = u) {v' : Value} {w' : World}
  (hr : (Builtin.copy_ #[t, t'] o.type #[v, u]).run P w = .ok v' w') (h : wpList P ops Q rest (a.put o.dst v') w') : wpList P ops Q (o :: rest) a w :=
 wpList_plain hgd fun _ hK => by
  unfold Oper.wp execOp
  simp only [ho, resolve, invoke, builtin, Sem.run_bind, Sem.run_pure, Result.andThen_ok, List.map_toArray, List.map_cons, List.map_nil, hd, hs, hr]
  exact hK _ _ h
theorem ins_cells {T : Type} {sz : Nat} {f : T → List Value} (hf : ∀ y, (f y).length = sz) (xs : List T) (i : Nat) (hi : i ≤ xs.length) (s : T) (cur cur2 : List Value) (N : Nat) (hl : cur.length = N * sz) (hN : xs.length + 1 ≤ N)
  (hpre : cur.take (i * sz) = (xs.take i).flatMap f) (h2 : cur2 = cur.take (i * sz) ++ f s ++ (xs.drop i).flatMap f ++ cur.drop ((xs.length + 1) * sz)) :
  cur2.length = N * sz ∧ cur2.take ((xs.length + 1) * sz) = (xs.take i ++ s :: xs.drop i).flatMap f := by
 have e1 : ((xs.drop i).flatMap f).length = (xs.length - i) * sz := by rw [flat_len hf]; simp
 have e2 : ((xs.take i).flatMap f).length = i * sz := by rw [flat_len hf, List.length_take, Nat.min_eq_left hi]
 have e3 : (xs.length + 1) * sz = i * sz + sz + (xs.length - i) * sz := by
  conv => lhs; rw [show xs.length + 1 = i + 1 + (xs.length - i) by omega, Nat.add_mul, Nat.add_mul, Nat.one_mul]
 have e4 : (xs.length + 1) * sz ≤ N * sz := Nat.mul_le_mul_right sz hN
 have e5 : (cur.take (i * sz) ++ f s ++ (xs.drop i).flatMap f).length = (xs.length + 1) * sz := by
  rw [hpre]; simp only [List.length_append, e1, e2, hf]; omega
 refine ⟨?_, ?_⟩
 ·rw [h2, List.length_append, e5, List.length_drop, hl]; omega
 ·rw [h2, List.take_left' e5, hpre]
  simp
theorem ins_own {T : Type} {B sz : Nat} {f : T → List Value} {e : TypeId} (hf : ∀ y, (f y).length = sz) (xs : List T) (i : Nat) (hi : i ≤ xs.length) (s : T) (cur cur2 : List Value) (N g : Nat) (W : World) (hl : cur.length = N * sz) (hN : xs.length + 1 ≤ N) (hNm : N ≤ maxLen)
  (hpre : cur.take (i * sz) = (xs.take i).flatMap f) (h2 : cur2 = cur.take (i * sz) ++ f s ++ (xs.drop i).flatMap f ++ cur.drop ((xs.length + 1) * sz)) (hB : Blk W g e cur2.toArray) (hBg : B ≤ g) :
  OwnV B e sz f W (.slice (some ⟨g, 0, none⟩) (xs.length + 1) N) (xs.take i ++ s :: xs.drop i) := by
 obtain ⟨h3, h4⟩ := ins_cells hf xs i hi s cur cur2 N hl hN hpre h2
 have hlen : (xs.take i ++ s :: xs.drop i).length = xs.length + 1 := by simp; omega
 unfold OwnV
 rw [hlen]
 refine ⟨by rw [flat_len hf, hlen], .inr ⟨g, N, cur2.toArray, rfl, hBg, hB, hN, hNm, by simp [h3], ?_⟩⟩
 simpa using h4
theorem flat_takeN {T : Type} {sz : Nat} {f : T → List Value} (hf : ∀ y, (f y).length = sz) : ∀ (xs : List T) (k : Nat), (xs.take k).flatMap f = (xs.flatMap f).take (k * sz)
 | [], k => by simp
 | x :: xs, 0 => by simp
 | x :: xs, k + 1 => by
  have ih := flat_takeN hf xs k
  have hk : (k + 1) * sz = sz + k * sz := by rw [Nat.succ_mul]; omega
  simp only [List.take_succ_cons, List.flatMap_cons]
  rw [ih, hk, List.take_append, hf, List.take_of_length_le (l := f x) (by rw [hf]; omega)]
  congr 2
  omega
theorem OwnV.parts {T : Type} {B sz : Nat} {f : T → List Value} {e : TypeId} {w : World} {g n c : Nat} {xs : List T} (h : OwnV B e sz f w (.slice (some ⟨g, 0, none⟩) n c) xs) :
  n = xs.length ∧ B ≤ g ∧ xs.length ≤ c ∧ c ≤ maxLen ∧ ∃ cur : Array Value, Blk w g e cur ∧ cur.size = c * sz ∧ cur.toList.take (xs.length * sz) = xs.flatMap f := by
 rcases h.2 with ⟨h0, _⟩ | ⟨g', cap, cur, hv, hB, hh, hnc, hcm, hcs, htake⟩
 ·cases h0
 ·injection hv with e1 e2 e3
  cases e1; subst e3
  exact ⟨e2, hB, hnc, hcm, cur, hh, hcs, htake⟩
theorem Blk.shape {w : World} {g : Nat} {t : TypeId} {cs : Array Value} (h : Blk w g t cs) : w.shape? g = some (t, cs.size) := by
 unfold Blk at h
 simp [World.shape?, h]
end Go.G9
namespace Go.Proofs.YtjimibkgocieoaaGreat
open Go.RowKit Go.G9
theorem zb30 {p : Prop} (h : p := by
 go_in
 go_wp2_with ((at_builtin; refine wpList_app1 rfl _ _ 27 rfl B 144 i0 _ 3 24 Tryz.underlying27 hi hz0 hz1 hz2 rfl (by decide) Sha.cells sha_len sha_one _ xs rfl HO.out ⟨vb, 0, none⟩ 1 s rfl HRV.out (by unfold maxLen; omega) (by omega) hBw ?_; intro v4 w4 hO4 hg4 ha4))
 have hg5 : w.grownBy w4 (some g) := hg4; clear hg4 ha4; have hO4' := hO4
 obtain ⟨g', cap, cs, rfl, _, _, _, _, _, _⟩ := hO4.whole sha_len (by simp)
 go_wp2
 go_ret
 have hl : (xs ++ [s]).length = xs.length + 1 := by simp
 rw [hl] at hO4'
 exact ⟨g', cap, by rw [hl]; rfl, hO4', hg5⟩) : p := h
theorem insSha_end (B : Nat) (g c : Nat) (xs : List Sha) (hn : xs.length ≤ 1048575) (s : Sha) (vb : Nat) (w : World) (hBw : B ≤ w.heap.size)
  (hO : OwnV B 144 3 Sha.cells w (.slice (some ⟨g, 0, none⟩) xs.length c) xs) (hV : Blk w vb 144 (Sha.cells s).toArray) :
 Calls Tryz.prog 209 #[.slice (some ⟨g, 0, none⟩) xs.length c, .int .i64 (xs.length : Int), .slice (some ⟨vb, 0, none⟩) 1 1] w fun e w' =>
  ∃ g' c', e = .returned (.slice (some ⟨g', 0, none⟩) (xs.length + 1) c') ∧ OwnV B 144 3 Sha.cells w' (.slice (some ⟨g', 0, none⟩) (xs.length + 1) c') (xs ++ [s]) ∧ w.grownBy w' (some g) := by
 obtain ⟨i0, hi, hz0, hz1, hz2⟩ := info_parts info_Sha
 have hRV : Rds 3 Sha.cells w (some ⟨vb, 0, none⟩) [s] := fun _ => ⟨vb, 0, rfl, hV.lt, fun i y hy j u hu => by
  have h0 : i = 0 := by have := (List.getElem?_eq_some_iff.1 hy).1; simp at this; omega
  subst h0; simp at hy; subst hy
  rw [Nat.zero_mul, Nat.zero_add]
  exact (hV.cell _).trans (by simpa using hu)⟩
 have hcp : xs.length ≤ c := hO.parts.2.2.1; have HRV := lh hRV; have HO := lh hO; clear hRV hV hO
 by_cases hb0 : c = xs.length
 ·subst hb0
  exact zb30
 ·skip
  exact zb30
theorem sizeSha : ∀ w, (Go.sizeOf 144).run Tryz.prog w = .ok 3 w := fun _ => by kernel_rfl
theorem insSha_room (B : Nat) (g c : Nat) (xs : List Sha) (hn : xs.length ≤ 1048575) (i : Nat) (hi' : i < xs.length) (hroom : xs.length + 1 ≤ c) (s : Sha) (vb : Nat) (w : World) (hne : vb ≠ g)
  (hO : OwnV B 144 3 Sha.cells w (.slice (some ⟨g, 0, none⟩) xs.length c) xs) (hV : Blk w vb 144 (Sha.cells s).toArray) :
 Calls Tryz.prog 209 #[.slice (some ⟨g, 0, none⟩) xs.length c, .int .i64 (i : Int), .slice (some ⟨vb, 0, none⟩) 1 1] w fun e w' =>
  ∃ g' c', e = .returned (.slice (some ⟨g', 0, none⟩) (xs.length + 1) c') ∧ OwnV B 144 3 Sha.cells w' (.slice (some ⟨g', 0, none⟩) (xs.length + 1) c') (xs.take i ++ s :: xs.drop i) ∧ w.grownBy w' (some g) := by
 obtain ⟨i0, hi, hz0, hz1, hz2⟩ := info_parts info_Sha
 obtain ⟨_, hBg, _, hcm, cur, hB, hcs, htk⟩ := hO.parts
 have hcm' : c ≤ 9223372036854775807 := hcm
 have hpre : cur.toList.take (i * 3) = (xs.take i).flatMap Sha.cells := by
  rw [flat_takeN sha_len, ← htk, List.take_take]
  congr 1; omega
 have hsrc : ∀ j v, ((xs.drop i).flatMap Sha.cells)[j]? = some v → w.cell? (Addr.add ⟨g, i * 3, none⟩ j) = some v := fun j v hv => by
  have h1 := flat_drop sha_len xs i j v hv
  rw [← htk, List.getElem?_take] at h1
  split at h1
  ·have e : Addr.add ⟨g, i * 3, none⟩ j = ⟨g, i * 3 + j, none⟩ := by unfold Addr.add; split <;> simp_all
   rw [e, hB.cell]
   simpa using h1
  ·cases h1
 have hfl : ((xs.drop i).flatMap Sha.cells).length = (xs.length - i) * 3 := by rw [flat_len sha_len]; simp
 have h1c : ∀ v ∈ (xs.drop i).flatMap Sha.cells, v.oneCell' = true := fun u hu => by obtain ⟨y, _, hy⟩ := List.mem_flatMap.1 hu; exact sha_one y u hy
 have hov : ∀ lb cb, (callFunc 213 #[.slice (some ⟨vb, 0, none⟩) 1 1, .slice (some ⟨g, (i + 1) * 3, none⟩) lb cb]).run Tryz.prog w = .ok (.value (.bool false)) w := fun lb cb => by
  rw [run_callFunc_extern Tryz.func213 (by kernel_rfl) (by kernel_rfl) (by kernel_rfl) (e := Extern.SlicesOverlaps.overlaps #[27, 27] #[4]) (by kernel_rfl),
   Lib.run_overlaps_apart w 27 4 144 Tryz.underlying27 3 sizeSha ⟨vb, 0, none⟩ ⟨g, (i + 1) * 3, none⟩ 1 1 lb cb hne _ _ _ _ hV.shape hB.shape (by rw [hcs]; omega) (hV.frozen 0) (hV.frozen _)]
  rfl
 have hp1 : ∀ ty dc sc, (Builtin.copy_ #[27, 27] ty #[.slice (some ⟨g, (i + 1) * 3, none⟩) (xs.length - i) dc, .slice (some ⟨g, i * 3, none⟩) (xs.length + 1 - i) sc]).run Tryz.prog w.drew = .ok (goInt ((xs.length - i : Nat) : Int)) (w.drew.setRow g (cur.toList.take ((i + 1) * 3) ++ (xs.drop i).flatMap Sha.cells ++ cur.toList.drop ((i + 1) * 3 + ((xs.drop i).flatMap Sha.cells).length)).toArray) := fun ty dc sc =>
  run_copyB w.drew _ _ ty 144 i0 g ((i + 1) * 3) (xs.length - i) (xs.length - i) dc ⟨g, i * 3, none⟩ (xs.length + 1 - i) sc cur 144 ((xs.drop i).flatMap Sha.cells) Tryz.underlying27 hi hB (by simp only [Nat.min_def]; split <;> omega) (by rw [hfl, hz1]) hsrc (by rw [hfl, hcs]; omega) h1c
 obtain ⟨c1, hc1⟩ : ∃ c1, c1 = (cur.toList.take ((i + 1) * 3) ++ (xs.drop i).flatMap Sha.cells ++ cur.toList.drop ((i + 1) * 3 + ((xs.drop i).flatMap Sha.cells).length)) := ⟨_, rfl⟩
 rw [← hc1] at hp1
 have hcl : cur.toList.length = c * 3 := by rw [Array.length_toList]; exact hcs
 have hl1 : c1.length = c * 3 := by
  rw [hc1]; simp only [List.length_append, List.length_take, List.length_drop, hfl, hcl]; omega
 have hB1 : Blk (w.drew.setRow g c1.toArray) g 144 c1.toArray := (show Blk w.drew g 144 cur from hB).setRow; have hg1 : w.grownBy (w.drew.setRow g c1.toArray) (some g) := grown_tr (bgr (Below.refl _ _).drew (some g)) grown_row; have hV1 : Blk (w.drew.setRow g c1.toArray) vb 144 (Sha.cells s).toArray := (hg1.block vb hV.lt (fun e => hne (Option.some.inj e))).trans hV
 generalize w.drew.setRow g c1.toArray = W1 at *
 have hp2 : ∀ ty dc, (Builtin.copy_ #[27, 27] ty #[.slice (some ⟨g, i * 3, none⟩) (xs.length + 1 - i) dc, .slice (some ⟨vb, 0, none⟩) 1 1]).run Tryz.prog W1 = .ok (goInt 1) (W1.setRow g (c1.take (i * 3) ++ Sha.cells s ++ c1.drop (i * 3 + (Sha.cells s).length)).toArray) := fun ty dc => by
  have h := run_copyB (P := Tryz.prog) W1 27 27 ty 144 i0 g (i * 3) 1 (xs.length + 1 - i) dc ⟨vb, 0, none⟩ 1 1 c1.toArray 144 (Sha.cells s) Tryz.underlying27 hi hB1 (by simp only [Nat.min_def]; split <;> omega) (by rw [hz1]; rfl)
   (fun j v hj => by
    have e : Addr.add ⟨vb, 0, none⟩ j = ⟨vb, j, none⟩ := by unfold Addr.add; split <;> simp_all
    rw [e, hV1.cell]; simpa using hj) (by rw [sha_len, List.size_toArray, hl1]; omega) (fun v hv => sha_one s v hv)
  simpa using h
 obtain ⟨c2, hc2⟩ : ∃ c2, c2 = c1.take (i * 3) ++ Sha.cells s ++ c1.drop (i * 3 + (Sha.cells s).length) := ⟨_, rfl⟩
 rw [← hc2] at hp2
 have hfin : c2 = cur.toList.take (i * 3) ++ Sha.cells s ++ (xs.drop i).flatMap Sha.cells ++ cur.toList.drop ((xs.length + 1) * 3) := by
  have t1 : (cur.toList.take ((i + 1) * 3)).length = (i + 1) * 3 := by rw [List.length_take, hcl]; omega
  have a1 : c1.take (i * 3) = cur.toList.take (i * 3) := by
   rw [hc1, List.append_assoc, List.take_append, t1, List.take_take, show min (i * 3) ((i + 1) * 3) = i * 3 by omega, show i * 3 - (i + 1) * 3 = 0 by omega, List.take_zero, List.append_nil]
  have a2 : c1.drop (i * 3 + (Sha.cells s).length) = (xs.drop i).flatMap Sha.cells ++ cur.toList.drop ((xs.length + 1) * 3) := by
   rw [sha_len, show i * 3 + 3 = (i + 1) * 3 by omega, hc1, List.append_assoc, List.drop_left' t1, hfl, show (i + 1) * 3 + (xs.length - i) * 3 = (xs.length + 1) * 3 by omega]
  rw [hc2, a1, a2, List.append_assoc, List.append_assoc, List.append_assoc]
 have hB2 : Blk (W1.setRow g c2.toArray) g 144 c2.toArray := hB1.setRow; have hres := ins_own (B := B) sha_len xs i (by omega) s cur.toList c2 c g _ hcl hroom hcm hpre hfin hB2 hBg; have hg2 : w.grownBy (W1.setRow g c2.toArray) (some g) := grown_tr hg1 grown_row; have HRES := lh hres; have HG2 := lh hg2; clear hres hg2 hB2 hfin hc2 hV1 hB1 hl1 hc1 hsrc hpre htk h1c hfl hg1 hcl
 have hb1 : ¬ (c = i) := by omega
 have hb2 : ¬ (c = i + 1) := by omega
 have HP1 := lh hp1; have HP2 := lh hp2; have HOV := lh hov; clear hp1 hp2 hov hO hB hV
 haveI : Nonempty (Hld (fun _ : World => True)) := ⟨⟨w, trivial⟩⟩
 go_in
 go_wp2_with (simp only [HOV.out])
 refine wp_region_mixh (fun _ => True) [([0, 1, 2, 3, 4, 5, 6, 7], 8)] [] (by kernel_rfl) (by kernel_rfl) trivial ?_
 refine wpMix_cons fun K hK => ?_
 change wpQuiet _ _ _ _ (_ :: _ :: _ :: _ :: _ :: _ :: _ :: _ :: []) _
 repeat (go_big_quiet_step (fail))
 refine wpQuiet_nil ?_
 change wpList _ _ _ (_ :: []) _ _
 go_wp2_with (with_reducible refine wpList_copyB _ rfl _ _ 27 27 rfl _ _ rfl rfl (HP1.out _ _ _) ?_)
 refine Nrm_intro (C := fun _ : World => True) trivial (hK _ _ ?_)
 refine wpMix_last ?_
 refine wpQuiet_nil ?_
 go_wp2_with (with_reducible refine wpList_copyB _ rfl _ _ 27 27 rfl _ _ rfl rfl (HP2.out _ _) ?_)
 go_wp2
 go_ret
 exact ⟨g, c, rfl, HRES.out, HG2.out⟩
theorem insSha_grow (B : Nat) (g : Nat) (xs : List Sha) (hn : xs.length ≤ 1048575) (i : Nat) (hi' : i < xs.length) (s : Sha) (vb : Nat) (w : World) (hBw : B ≤ w.heap.size)
  (hO : OwnV B 144 3 Sha.cells w (.slice (some ⟨g, 0, none⟩) xs.length xs.length) xs) (hV : Blk w vb 144 (Sha.cells s).toArray) :
 Calls Tryz.prog 209 #[.slice (some ⟨g, 0, none⟩) xs.length xs.length, .int .i64 (i : Int), .slice (some ⟨vb, 0, none⟩) 1 1] w fun e w' =>
  ∃ g' c', e = .returned (.slice (some ⟨g', 0, none⟩) (xs.length + 1) c') ∧ OwnV B 144 3 Sha.cells w' (.slice (some ⟨g', 0, none⟩) (xs.length + 1) c') (xs.take i ++ s :: xs.drop i) ∧ w.grownBy w' (some g) := by
 obtain ⟨i0, hi, hz0, hz1, hz2⟩ := info_parts info_Sha
 obtain ⟨_, hBg, _, hcm, cur, hB, hcs, htk⟩ := hO.parts
 have hpre0 : cur.toList.take (i * 3) = (xs.take i).flatMap Sha.cells := by
  rw [flat_takeN sha_len, ← htk, List.take_take]
  congr 1; omega
 have hsrc : ∀ (W : World), Blk W g 144 cur → ∀ j v, ((xs.drop i).flatMap Sha.cells)[j]? = some v → W.cell? (Addr.add ⟨g, i * 3, none⟩ j) = some v := fun W hW j v hv => by
  have h1 := flat_drop sha_len xs i j v hv
  rw [← htk, List.getElem?_take] at h1
  split at h1
  ·have e : Addr.add ⟨g, i * 3, none⟩ j = ⟨g, i * 3 + j, none⟩ := by unfold Addr.add; split <;> simp_all
   rw [e, hW.cell]
   simpa using h1
  ·cases h1
 have hfl : ((xs.drop i).flatMap Sha.cells).length = (xs.length - i) * 3 := by rw [flat_len sha_len]; simp
 have hft : ((xs.take i).flatMap Sha.cells).length = i * 3 := by rw [flat_len sha_len, List.length_take, Nat.min_eq_left (by omega)]
 have h1c : ∀ v ∈ (xs.drop i).flatMap Sha.cells, v.oneCell' = true := fun u hu => by obtain ⟨y, _, hy⟩ := List.mem_flatMap.1 hu; exact sha_one y u hy
 have hold : (Builtin.firstCells i0.size i (.slice (some ⟨g, 0, none⟩) i xs.length)).run Tryz.prog w.drew = .ok ((xs.take i).flatMap Sha.cells).toArray w.drew := by
  rw [hz1]
  exact run_firstCells_some w.drew 3 i ⟨g, 0, none⟩ i xs.length ((xs.take i).flatMap Sha.cells) hft (fun j v hj => by
   have e : Addr.add ⟨g, 0, none⟩ j = ⟨g, j, none⟩ := by unfold Addr.add; split <;> simp_all
   rw [e, (show Blk w.drew g 144 cur from hB).cell]
   rw [← hpre0, List.getElem?_take] at hj
   split at hj
   ·simpa using hj
   ·cases hj)
 have hkk : (xs.length : Int) + 1 - (i : Int) = ((xs.length + 1 - i : Nat) : Int) := by omega
 have hik : i + (xs.length + 1 - i) = xs.length + 1 := by omega
 obtain ⟨G, hG⟩ : ∃ G, G = grownCap w (xs.length + 1) xs.length 144 := ⟨_, rfl⟩
 obtain ⟨z, hz⟩ : ∃ z : Value, z = .agg #[.int .i64 0, .int .i64 0, .int .i64 0] := ⟨_, rfl⟩
 rw [← hz] at hz0
 have hzc : z.cells.size = 3 := by rw [hz]; rfl
 obtain ⟨ROW, hROW⟩ : ∃ ROW : Array Value, ROW = ((xs.take i).flatMap Sha.cells).toArray ++ Builtin.zeroCells z.cells (xs.length + 1 - i) ++ Builtin.zeroCells z.cells (G - (xs.length + 1)) := ⟨_, rfl⟩
 have hGn : xs.length + 1 ≤ G := by rw [hG]; exact grownCap_ge w _ _ _
 have hGm : G ≤ maxLen := by rw [hG]; exact grownCap_le_maxLen w _ _ _ (by unfold maxLen; omega)
 have hG63 : G ≤ 9223372036854775807 := hGm
 have hrz : ∀ ty, (Builtin.append_ #[27, 3] ty #[.slice (some ⟨g, 0, none⟩) i xs.length, .int .i64 ((xs.length : Int) + 1 - (i : Int))]).run Tryz.prog w = .ok (.slice (some ⟨w.heap.size, 0, none⟩) (xs.length + 1) G) (w.drew.alloc (.cells ROW 144)) := fun ty => by
  have h := Lib.run_append_grow_zeros w 27 3 ty 144 i0 z .i64 .i64 Tryz.underlying27 Tryz.underlying3 hi hz0 (some ⟨g, 0, none⟩) i xs.length ((xs.take i).flatMap Sha.cells) hold (xs.length + 1 - i) (by omega) (by omega) (by omega) (by omega) (by rw [hz2]; omega) (by rw [hz2, hik]; exact growslice_fits (by omega) (by omega))
  rw [hik, ← hG, ← hROW] at h
  rw [hkk]
  exact h
 have hRs : ROW.size = G * 3 := by
  rw [hROW]
  simp only [Array.size_append, List.size_toArray, size_zeroCells, hzc, hft]
  omega
 have hRl : ROW.toList.length = G * 3 := by rw [Array.length_toList]; exact hRs
 have hpre : ROW.toList.take (i * 3) = (xs.take i).flatMap Sha.cells := by
  rw [hROW]
  simp only [Array.toList_append, List.append_assoc]
  exact List.take_left' hft
 have hBN : Blk (w.drew.alloc (.cells ROW 144)) w.heap.size 144 ROW := Blk.new w.drew 144 ROW; have hBW : Below w.heap.size w (w.drew.alloc (.cells ROW 144)) := (Below.refl _ _).drew.alloc (Nat.le_refl _) _; have hVW := hV.to hBW; have hgW := hB.to hBW; have hglt := hB.lt; have hvlt := hV.lt
 obtain ⟨N, hN⟩ : ∃ N, N = w.heap.size := ⟨_, rfl⟩
 rw [← hN] at hrz hBN hglt hvlt
 clear hROW hold hik hkk hB hV
 obtain ⟨W1, hW1⟩ : ∃ W1, W1 = w.drew.alloc (.cells ROW 144) := ⟨_, rfl⟩
 rw [← hW1] at hrz hBN hBW hVW hgW
 have hp1 : ∀ ty dc, (Builtin.copy_ #[27, 27] ty #[.slice (some ⟨N, i * 3, none⟩) (xs.length + 1 - i) dc, .slice (some ⟨vb, 0, none⟩) 1 1]).run Tryz.prog W1 = .ok (goInt 1) (W1.setRow N (ROW.toList.take (i * 3) ++ Sha.cells s ++ ROW.toList.drop (i * 3 + (Sha.cells s).length)).toArray) := fun ty dc => by
  have h := run_copyB (P := Tryz.prog) W1 27 27 ty 144 i0 N (i * 3) 1 (xs.length + 1 - i) dc ⟨vb, 0, none⟩ 1 1 ROW 144 (Sha.cells s) Tryz.underlying27 hi hBN (by simp only [Nat.min_def]; split <;> omega) (by rw [hz1]; rfl)
   (fun j v hj => by
    have e : Addr.add ⟨vb, 0, none⟩ j = ⟨vb, j, none⟩ := by unfold Addr.add; split <;> simp_all
    rw [e, hVW.cell]; simpa using hj) (by rw [sha_len, hRs]; omega) (fun v hv => sha_one s v hv)
  simpa using h
 obtain ⟨c1, hc1⟩ : ∃ c1, c1 = ROW.toList.take (i * 3) ++ Sha.cells s ++ ROW.toList.drop (i * 3 + (Sha.cells s).length) := ⟨_, rfl⟩
 rw [← hc1] at hp1
 have hl1 : c1.length = G * 3 := by
  rw [hc1]; simp only [List.length_append, List.length_take, List.length_drop, sha_len, hRl]; omega
 have hB1 : Blk (W1.setRow N c1.toArray) N 144 c1.toArray := hBN.setRow; have hg1 : W1.grownBy (W1.setRow N c1.toArray) (some N) := grown_row; have hgr1 : Blk (W1.setRow N c1.toArray) g 144 cur := (hg1.block g hgW.lt (fun e => by have := Option.some.inj e; omega)).trans hgW
 obtain ⟨W2, hW2⟩ : ∃ W2, W2 = W1.setRow N c1.toArray := ⟨_, rfl⟩
 rw [← hW2] at hp1 hB1 hg1 hgr1
 have hp2 : ∀ ty dc sc, (Builtin.copy_ #[27, 27] ty #[.slice (some ⟨N, (i + 1) * 3, none⟩) (xs.length - i) dc, .slice (some ⟨g, i * 3, none⟩) (xs.length - i) sc]).run Tryz.prog W2.drew = .ok (goInt ((xs.length - i : Nat) : Int)) (W2.drew.setRow N (c1.take ((i + 1) * 3) ++ (xs.drop i).flatMap Sha.cells ++ c1.drop ((i + 1) * 3 + ((xs.drop i).flatMap Sha.cells).length)).toArray) := fun ty dc sc => by
  have h := run_copyB (P := Tryz.prog) W2.drew 27 27 ty 144 i0 N ((i + 1) * 3) (xs.length - i) (xs.length - i) dc ⟨g, i * 3, none⟩ (xs.length - i) sc c1.toArray 144 ((xs.drop i).flatMap Sha.cells) Tryz.underlying27 hi hB1 (by simp only [Nat.min_def]; split <;> omega) (by rw [hfl, hz1]) (hsrc _ hgr1) (by rw [hfl, List.size_toArray, hl1]; omega) h1c
  simpa using h
 obtain ⟨c2, hc2⟩ : ∃ c2, c2 = c1.take ((i + 1) * 3) ++ (xs.drop i).flatMap Sha.cells ++ c1.drop ((i + 1) * 3 + ((xs.drop i).flatMap Sha.cells).length) := ⟨_, rfl⟩
 rw [← hc2] at hp2
 have hfin : c2 = ROW.toList.take (i * 3) ++ Sha.cells s ++ (xs.drop i).flatMap Sha.cells ++ ROW.toList.drop ((xs.length + 1) * 3) := by
  have t1 : (ROW.toList.take (i * 3) ++ Sha.cells s).length = (i + 1) * 3 := by rw [List.length_append, List.length_take, hRl, sha_len]; omega
  have a1 : c1.take ((i + 1) * 3) = ROW.toList.take (i * 3) ++ Sha.cells s := by
   rw [hc1, List.take_left' t1]
  have a2 : c1.drop ((i + 1) * 3 + ((xs.drop i).flatMap Sha.cells).length) = ROW.toList.drop ((xs.length + 1) * 3) := by
   rw [hfl, ← List.drop_drop, hc1, List.drop_left' t1, List.drop_drop, sha_len]
   congr 1; omega
  rw [hc2, a1, a2]
 have hB2 : Blk (W2.drew.setRow N c2.toArray) N 144 c2.toArray := (show Blk W2.drew N 144 c1.toArray from hB1).setRow; have hres := ins_own (B := B) sha_len xs i (by omega) s ROW.toList c2 G N _ hRl hGn hGm hpre hfin hB2 (by omega)
 have hg2 : w.grownBy (W2.drew.setRow N c2.toArray) (some g) := by
  have h1 : Below w.heap.size w W2 := (grown_below (hg1) (hN ▸ (show N ≤ W1.heap.size from Nat.le_of_lt hBN.lt)) (fun k hk => by have := Option.some.inj hk; omega) : Below w.heap.size W1 W2) |> hBW.trans; have h2 : Below w.heap.size w (W2.drew.setRow N c2.toArray) := h1.drew.trans (grown_below (grown_row (w := W2.drew)) (by have := h1.size; show w.heap.size ≤ W2.heap.size; exact this) (fun k hk => by have := Option.some.inj hk; omega))
  exact bgr h2 _
 have HRES := lh hres; have HG2 := lh hg2
 have hk1 : ¬ (G = i) := by omega
 have hk2 : ¬ (G = i + 1) := by omega
 have hk3 : ¬ (xs.length = i) := by omega
 have hs2 : (xs.length : Int) < (xs.length : Int) + 1 := by omega
 have HP1 := lh hp1; have HP2 := lh hp2; have HRZ := lh hrz; clear hp1 hp2 hrz hres hg2 hB2 hfin hc2 hgr1 hg1 hB1 hl1 hc1 hVW hgW hBW hBN hpre hRl hRs hz hzc hsrc htk hpre0 h1c hfl hft hO hW1 hW2 hG hN
 haveI : Nonempty (Hld (fun _ : World => True)) := ⟨⟨w, trivial⟩⟩
 go_in
 go_wp2_with (first
  | (at_builtin; refine Lib.wpList_append_run _ rfl _ _ _ _ rfl _ _ rfl rfl _ _ (HRZ.out _) ?_)
  | (with_reducible refine wpList_copyB _ rfl _ _ 27 27 rfl _ _ rfl rfl (HP1.out _ _) ?_))
 refine wp_region_mixh (fun _ => True) [([0, 1, 2, 3, 4, 5, 6, 7], 8)] [] (by kernel_rfl) (by kernel_rfl) trivial ?_
 refine wpMix_cons fun K hK => ?_
 change wpQuiet _ _ _ _ (_ :: _ :: _ :: _ :: _ :: _ :: _ :: _ :: []) _
 repeat (go_big_quiet_step (fail))
 refine wpQuiet_nil ?_
 change wpList _ _ _ (_ :: []) _ _
 go_wp2_with (with_reducible refine wpList_copyB _ rfl _ _ 27 27 rfl _ _ rfl rfl (HP2.out _ _ _) ?_)
 refine Nrm_intro (C := fun _ : World => True) trivial (hK _ _ ?_)
 refine wpMix_last ?_
 refine wpQuiet_nil ?_
 go_wp2
 go_ret
 exact ⟨N, G, rfl, HRES.out, HG2.out⟩
theorem insSha_is (B : Nat) (g c : Nat) (xs : List Sha) (hn : xs.length ≤ 1048575) (i : Nat) (hi : i ≤ xs.length) (s : Sha) (vb : Nat) (w : World) (hBw : B ≤ w.heap.size) (hne : vb ≠ g)
  (hO : OwnV B 144 3 Sha.cells w (.slice (some ⟨g, 0, none⟩) xs.length c) xs) (hV : Blk w vb 144 (Sha.cells s).toArray) :
 Calls Tryz.prog 209 #[.slice (some ⟨g, 0, none⟩) xs.length c, .int .i64 (i : Int), .slice (some ⟨vb, 0, none⟩) 1 1] w fun e w' =>
  ∃ g' c', e = .returned (.slice (some ⟨g', 0, none⟩) (xs.length + 1) c') ∧ OwnV B 144 3 Sha.cells w' (.slice (some ⟨g', 0, none⟩) (xs.length + 1) c') (xs.take i ++ s :: xs.drop i) ∧ w.grownBy w' (some g) := by
 by_cases h1 : i = xs.length
 ·subst h1
  rw [List.take_length, List.drop_length]
  exact insSha_end B g c xs hn s vb w hBw hO hV
 ·by_cases h2 : xs.length + 1 ≤ c
  ·exact insSha_room B g c xs hn i (by omega) h2 s vb w hne hO hV
  ·have h3 := hO.parts.2.2.1
   obtain rfl : c = xs.length := by omega
   exact insSha_grow B g xs hn i (by omega) s vb w hBw hO hV
open Go.RowKit Go.G9
theorem que_len (x : Que) : (Que.cells x).length = 3 := rfl
theorem que_one (x : Que) : ∀ u, u ∈ Que.cells x → u.oneCell' = true := by
 intro u hu
 simp only [Que.cells, List.mem_cons, List.not_mem_nil, or_false] at hu
 rcases hu with rfl | rfl | rfl <;> rfl
def oL {T : Type} (o : Option (List T)) : List T := o.getD []
theorem flat_setq {T V : Type} {sz : Nat} {f : T → List V} (hf : ∀ y, (f y).length = sz) {y : T} {u : V} {i : Nat} (hi : i < sz) : ∀ (xs : List T) (j : Nat) (x : T), xs[j]? = some x → f y = (f x).set i u → (xs.set j y).flatMap f = (xs.flatMap f).set (j * sz + i) u
 | [], j, x, h, _ => by simp at h
 | z :: xs, 0, x, h, hy => by
  simp at h; subst h
  simp only [List.set_cons_zero, List.flatMap_cons, Nat.zero_mul, Nat.zero_add]
  rw [List.set_append_left _ _ (by rw [hf]; exact hi), hy]
 | z :: xs, j + 1, x, h, hy => by
  have ih := flat_setq hf hi xs j x (by simpa using h) hy
  simp only [List.set_cons_succ, List.flatMap_cons]
  rw [ih, List.set_append_right _ _ (by rw [hf, Nat.succ_mul]; omega), hf]
  congr 1
  congr 1
  rw [Nat.succ_mul]; omega
theorem own_set {T : Type} {B : Nat} {e : TypeId} {sz : Nat} {f : T → List Value} {w : World} {g n c : Nat} {xs : List T} (h : OwnV B e sz f w (.slice (some ⟨g, 0, none⟩) n c) xs) (hf : ∀ y, (f y).length = sz) {j i : Nat} {x y : T} {u : Value} (hx : xs[j]? = some x) (hi : i < sz) (hy : f y = (f x).set i u) : OwnV B e sz f (w.setCell ⟨g, j * sz + i, none⟩ u) (.slice (some ⟨g, 0, none⟩) n c) (xs.set j y) := by
 unfold OwnV at h ⊢
 rw [List.length_set, flat_setq hf hi xs j x hx hy]
 exact ownsRow_set h rfl
theorem own_free {T : Type} {B : Nat} {e : TypeId} {sz : Nat} {f : T → List Value} {w : World} {g n c : Nat} {xs : List T} (h : OwnV B e sz f w (.slice (some ⟨g, 0, none⟩) n c) xs) (hf : ∀ y, (f y).length = sz) {j i : Nat} (hj : j < xs.length) (hi : i < sz) : w.frozen? ⟨g, j * sz + i, none⟩ = false := by
 refine (ownsRow_cellAt h rfl ?_).2
 rw [flat_len hf]
 have : (j + 1) * sz ≤ xs.length * sz := Nat.mul_le_mul_right _ hj
 rw [Nat.succ_mul] at this
 omega
theorem own_cellq {T : Type} {sz : Nat} {f : T → List Value} {B : Nat} {e : TypeId} {w : World} {g n c : Nat} {xs : List T} (h : OwnV B e sz f w (.slice (some ⟨g, 0, none⟩) n c) xs) (hf : ∀ y, (f y).length = sz) {j : Nat} {x : T} (hx : xs[j]? = some x) {i : Nat} {u : Value} (hu : (f x)[i]? = some u) : w.cell? ⟨g, j * sz + i, none⟩ = some u := by
 obtain ⟨A', c', e', _, hR, _⟩ := h.form hf
 injection e' with e1 _ _
 subst e1
 obtain ⟨b9, o9, y, e9, _, hy, hc⟩ := hR.at_ (Below.refl _ _) (k := j) (List.getElem?_eq_some_iff.1 hx).1
 cases e9
 obtain rfl : x = y := Option.some.inj (hx.symm.trans hy)
 have := hc i u hu (Kin.self _)
 simp only [Kin.self, Nat.zero_add] at this
 exact this
theorem wpList_appOn {P : Program} {w : World} {ops : Array Oper} {rest : List Oper} {o : Oper} {a : Act} {Q : Exit → Act → World → Prop} (hgd : o.guard = none) (s x : Operand) (t : TypeId)
  (ho : o.op = .call { callee := .builtin .append, args := #[s, x], argTypes := #[t, t] })
  (B : Nat) (e : TypeId) (i : TypeInfo) (z : Value) (sz bytes : Nat) (ht : P.underlying t = some (.slice e)) (hi : P.info? e = some i) (hz : i.zero = some z)
  (hsize : i.size = sz) (hby : i.bytes = bytes) (hzs : z.cells.size = sz) (hsz : 0 < sz) {T : Type} (f : T → List Value) (hf : ∀ y, (f y).length = sz) (hone : ∀ y u, u ∈ f y → u.oneCell' = true)
  (g : Nat) (hs : a.eval s = .slice (some ⟨g, 0, none⟩) 0 0) (hg : Blk w g e #[]) (hBg : B ≤ g) (A2 : Option Addr) (c2 : Nat) (ys : List T) (n : Nat) (hn : n = ys.length) (hx : a.eval x = .slice A2 n c2) (hR : Rds sz f w A2 ys) (hA : A2 = none → ys = [] ∧ c2 = 0)
  (h63 : ys.length ≤ maxLen) (hbytes : ys.length * bytes ≤ 140737488355328)
  (h : ∀ g' c' w', OwnV B e sz f w' (.slice (some ⟨g', 0, none⟩) ys.length c') ys → Below w.heap.size w w' → wpList P ops Q rest (a.put o.dst (.slice (some ⟨g', 0, none⟩) n c')) w') : wpList P ops Q (o :: rest) a w := by
 subst hn
 exact wpList_appO hgd s x t ho B e i z sz bytes ht hi hz hsize hby hzs hsz f hf hone g hs hg hBg A2 c2 ys hx hR hA h63 hbytes h
def lkB (rs : List Rul) (qs : List Que) : Bool := pendB rs qs && lstB rs qs
theorem zb126 {p : Prop} (h : p := by
 rintro e w1 ⟨rfl, hb1⟩
 have hq1 := be w hb1; have HB : Below w.heap.size w w1 := hq1
 go_wp2
 go_ret
 exact ⟨rfl, (bth HB bel)⟩) : p := h
theorem lacks_is (A0 : Option Addr) (c0 : Nat) (rs : List Rul) (h0 : rs.length ≤ 1048576) (kc : rs.length ≤ c0) (A1 : Option Addr) (c1 : Nat) (qs : List Que) (h1 : qs.length ≤ 1048576) (v : Bool) (hv : lkB rs qs = v) (w : World) (R0 : Rds 7 Rul.cells w A0 rs) (R1 : Rds 3 Que.cells w A1 qs) : Calls Tryz.prog 172 #[.slice A0 rs.length c0, .slice A1 qs.length c1] w fun e w' => e = .returned (.bool v) ∧ Below w.heap.size w w' := by
 subst hv
 cases hp : pendB rs qs
 ·have HP := lh hp
  have e : lkB rs qs = false := by simp [lkB, hp]
  rw [e]
  clear hp e
  go_in
  go_wp2_with fail
  refine (arePending_is A0 c0 rs h0 kc A1 c1 qs h1 _ HP.out _ (R0.below bel) (R1.below bel)).mono ?_
  exact zb126
 ·by_cases hq0 : qs.length = 0
  ·have HP := lh hp
   have e : lkB rs qs = false := by rw [lkB, lstB_nil hq0, Bool.and_false]
   rw [e]
   clear hp e
   obtain rfl := List.length_eq_zero_iff.1 hq0
   clear hq0
   go_in
   go_wp2_with fail
   refine (arePending_is A0 c0 rs h0 kc A1 c1 [] h1 _ HP.out _ (R0.below bel) (R1.below bel)).mono ?_
   exact zb126
  ·obtain ⟨j, hj⟩ : ∃ j, qs.length = j + 1 := ⟨qs.length - 1, by omega⟩
   obtain ⟨bq, oq, q, rfl, _, hq, _⟩ := R1.at_ (Below.refl _ _) (k := j) (by omega)
   obtain ⟨t, ht⟩ := pendB_found hp hq
   have e : lkB rs qs = lackB t q := by rw [lkB, hp, lstB_last hj hq ht]; rfl
   rw [e]
   obtain ⟨qr, qm, qe⟩ := q
   have HP := lh hp; have HQ := lh hq; have HT := lh ht; have HJ := lh hj
   have hjl : j ≤ 1048576 := by omega
   clear hp hq ht e hq0
   obtain ⟨v, hv⟩ : ∃ v, lackB t ⟨qr, qm, qe⟩ = v := ⟨_, rfl⟩
   have HV := lh hv
   rw [hv]
   clear hv; have HE := lh (fun W (h : Rds 7 Rul.cells W A0 rs) (h' : Rds 3 Que.cells W (some ⟨bq, oq, none⟩) qs) => arePending_is A0 c0 rs h0 kc (some ⟨bq, oq, none⟩) c1 qs h1 _ HP.out W h h')
   rw [hj] at HE ⊢
   clear hj
   go_in
   go_wp2_with fail
   refine (HE.out _ (R0.below bel) (R1.below bel)).mono ?_
   rintro e w1 ⟨rfl, hb1⟩
   have hq1 := be w hb1; have HB : Below w.heap.size w w1 := hq1; replace R0 := R0.below hq1; replace R1 := R1.below hq1
   obtain ⟨_, _, y, e9, hb9, hy, hcy⟩ := R1.at_ (Below.refl _ _) (k := j) (by have := HJ.out; omega)
   cases e9
   obtain rfl : (⟨qr, qm, qe⟩ : Que) = y := Option.some.inj (HQ.out.symm.trans hy)
   clear hy; have p0 := hcy 0 _ rfl; have p1 := hcy 1 _ rfl; have p2 := hcy 2 _ rfl
   simp only [Nat.add_zero] at p0
   have g0 := p0 (Kin.self _); have g1 := p1 (Kin.self _); have g2 := p2 (Kin.self _)
   simp only [Kin.self] at g0
   simp only [Kin.self] at g1
   simp only [Kin.self] at g2
   clear hcy p0 p1 p2
   go_wp2_with fail
   refine (lacksSecond_is A0 c0 rs h0 ⟨qr, qm, qe⟩ t HT.out v HV.out _ (R0.below bel)).mono ?_
   rintro e w2 ⟨rfl, hb2⟩
   have hq2 := be w1 hb2; replace HB := bth HB hq2
   go_wp2
   go_ret
   exact ⟨rfl, (bth HB bel)⟩
theorem mvQ_no1 {rs : List Rul} {qs : List Que} {id mem : Int} (h : pendB rs qs = false) : mvQ rs qs id mem = none := by simp [mvQ, h]
theorem mvQ_no2 {rs : List Rul} {qs : List Que} {id mem : Int} (h : memB mem = false) : mvQ rs qs id mem = none := by simp [mvQ, h]
theorem mvQ_no3 {rs : List Rul} {qs : List Que} {id mem : Int} (h : hasB (mayL rs qs) id = false) : mvQ rs qs id mem = none := by simp [mvQ, h]
theorem mvQ_yes {rs : List Rul} {qs : List Que} {id mem : Int} (h : pendB rs qs = true) (h2 : memB mem = true) (h3 : hasB (mayL rs qs) id = true) : mvQ rs qs id mem = some (qs ++ [⟨id, mem, false⟩]) := by simp [mvQ, h, h2, h3]
theorem zb69 {p : Prop} (h : p := by
 clear hp
 go_in
 go_wp2_with fail
 refine (arePending_is A0 c0 rs h0 kc A1 c1 qs h1 _ HP.out _ (R0.below bel) (R1.below bel)).mono ?_
 rintro e w1 ⟨rfl, hb1⟩
 have hq1 := be w hb1; have HB : Below w.heap.size w w1 := hq1
 go_wp2
 go_ret2
 exact ⟨none, 0, rfl, OwnV.nil, (bth HB bel)⟩) : p := h
theorem zb73 {p : Prop} (h : p := by
 rintro e w1 ⟨rfl, hb1⟩
 have hq1 := be w hb1; have HB : Below w.heap.size w w1 := hq1
 go_wp2_with fail
 refine (isMember_is mem _ HM.out _).mono ?_
 rintro e w0 ⟨rfl, h0⟩
 rw [h0]
 clear h0 w0
 go_wp2
 go_ret2
 exact ⟨none, 0, rfl, OwnV.nil, (bth HB bel)⟩) : p := h
theorem zb10 {p : Prop} (h : p := by
 rintro e w3 ⟨rfl, hb3⟩
 have hq3 := be w2 hb3; replace HB := bth HB hq3; replace R1 := R1.below hq3; clear R5; have hA := HNA.out; have HR1 := lh (fun e u => (R1.below (bl1 w3 (.cells #[] e))) : ∀ (e : TypeId) (u : Unit), Rds 3 Que.cells (w3.alloc (.cells #[] e)) A1 qs); have szc := HB.size
 go_wp2_with ((first
  | (at_builtin; refine wpList_appO rfl _ _ 25 rfl w3.heap.size 46 i0 _ 3 24 Tryz.underlying25 hi hz0 hz1 hz2 rfl (by decide) Que.cells que_len que_one w3.heap.size rfl (Blk.new _ _ _) (Nat.le_refl _) A1 c1 qs rfl (HR1.out _ ()) hA (by unfold maxLen; omega) (by omega) ?_; intro g' c' wA hO' hb'; have hbA : Below w3.heap.size w3 wA := bth (bl1 _ _) hb'; have szA := hbA.size; clear hA)
  | (at_builtin; refine wpList_app1 rfl _ _ 25 rfl w3.heap.size 46 i0 _ 3 24 Tryz.underlying25 hi hz0 hz1 hz2 rfl (by decide) Que.cells que_len que_one _ qs rfl (hO'.alloc _) ⟨wA.heap.size, 0, none⟩ 1 ⟨id, mem, false⟩ rfl (Rds.one (f := Que.cells) ⟨id, mem, false⟩ _) (by unfold maxLen; omega) (by omega) (by simp; omega) ?_; intro v4 w4 hO4 hg4 ha4)))
 have hB4 : Below w3.heap.size w3 w4 := (hbA.alloc (by omega) _).grown hg4 (by simp; omega) (fun q hq => (hO'.lt q hq).1)
 obtain ⟨Y, yc, rfl, _, _, _⟩ := hO4.form que_len
 go_wp2
 go_ret2
 exact ⟨Y, yc, rfl, hO4.base (by omega), bth HB hB4⟩) : p := h
theorem iMoveQ_is (A0 : Option Addr) (c0 : Nat) (rs : List Rul) (h0 : rs.length ≤ 1048576) (kc : rs.length ≤ c0) (A1 : Option Addr) (c1 : Nat) (qs : List Que) (h1 : qs.length ≤ 1048576) (hA : A1 = none → qs = [] ∧ c1 = 0) (id mem : Int) (w : World) (R0 : Rds 7 Rul.cells w A0 rs) (R1 : Rds 3 Que.cells w A1 qs) : Calls Tryz.prog 164 #[.slice A0 rs.length c0, .slice A1 qs.length c1, .int .i64 id, .int .i64 mem] w fun e w' => ∃ A c, e = .returned (.tuple #[.slice A (oL (mvQ rs qs id mem)).length c, .bool (mvQ rs qs id mem).isSome]) ∧ OwnV w.heap.size 46 3 Que.cells w' (.slice A (oL (mvQ rs qs id mem)).length c) (oL (mvQ rs qs id mem)) ∧ Below w.heap.size w w' := by
 obtain ⟨i0, hi, hz0, hz1, hz2⟩ := info_parts info_Que
 have HNA := lh hA; clear hA
 cases hp : pendB rs qs
 ·have HP := lh hp
  rw [mvQ_no1 hp]
  exact zb69
 cases hm : memB mem
 ·have HP := lh hp; have HM := lh hm
  rw [mvQ_no2 hm]
  clear hp hm
  go_in
  go_wp2_with fail
  refine (arePending_is A0 c0 rs h0 kc A1 c1 qs h1 _ HP.out _ (R0.below bel) (R1.below bel)).mono ?_
  exact zb73
 have hml : (mayL rs qs).length ≤ 1048576 := Nat.le_trans (mayL_len rs qs) h0
 cases hs : hasB (mayL rs qs) id
 ·have HP := lh hp; have HM := lh hm; have HS := lh hs
  rw [mvQ_no3 hs]
  clear hp hm hs
  go_in
  go_wp2_with fail
  refine (arePending_is A0 c0 rs h0 kc A1 c1 qs h1 _ HP.out _ (R0.below bel) (R1.below bel)).mono ?_
  rintro e w1 ⟨rfl, hb1⟩
  have hq1 := be w hb1; have HB : Below w.heap.size w w1 := hq1; replace R0 := R0.below hq1; replace R1 := R1.below hq1
  go_wp2_with fail
  refine (isMember_is mem _ HM.out _).mono ?_
  rintro e w0 ⟨rfl, h0⟩
  rw [h0]
  clear h0 w0
  go_wp2_with fail
  refine (mayBeMoved_is A0 c0 rs h0 A1 c1 qs h1 HP.out _ (R0.below bel) (R1.below bel)).mono ?_
  rintro e w2 ⟨A5, c5, rfl, O5, hb2⟩
  have hq2 := be w1 hb2; replace HB := bth HB hq2; have R5 := O5.rds (hf := intC_len); clear O5
  go_wp2_with fail
  refine (contains_int A5 c5 (mayL rs qs) id hml _ HS.out _ (R5.below bel)).mono ?_
  rintro e w3 ⟨rfl, hb3⟩
  have hq3 := be w2 hb3; replace HB := bth HB hq3
  go_wp2
  go_ret2
  exact ⟨none, 0, rfl, OwnV.nil, (bth HB bel)⟩
 ·have HP := lh hp; have HM := lh hm; have HS := lh hs
  rw [mvQ_yes hp hm hs]
  clear hp hm hs
  go_in
  go_wp2_with fail
  refine (arePending_is A0 c0 rs h0 kc A1 c1 qs h1 _ HP.out _ (R0.below bel) (R1.below bel)).mono ?_
  rintro e w1 ⟨rfl, hb1⟩
  have hq1 := be w hb1; have HB : Below w.heap.size w w1 := hq1; replace R0 := R0.below hq1; replace R1 := R1.below hq1
  go_wp2_with fail
  refine (isMember_is mem _ HM.out _).mono ?_
  rintro e w0 ⟨rfl, h0⟩
  rw [h0]
  clear h0 w0
  go_wp2_with fail
  refine (mayBeMoved_is A0 c0 rs h0 A1 c1 qs h1 HP.out _ (R0.below bel) (R1.below bel)).mono ?_
  rintro e w2 ⟨A5, c5, rfl, O5, hb2⟩
  have hq2 := be w1 hb2; replace HB := bth HB hq2; replace R1 := R1.below hq2; have R5 := O5.rds (hf := intC_len); clear O5
  go_wp2_with fail
  refine (contains_int A5 c5 (mayL rs qs) id hml _ HS.out _ (R5.below bel)).mono ?_
  exact zb10
end Go.Proofs.YtjimibkgocieoaaGreat
