/- Texts of the proof: walks of the functions, and what they compute. -/
import Derived.Test.YtjimibkgocieoaaGreatRm9
import Derived.Test.YtjimibkgocieoaaGreatRm22
import Derived.Test.YtjimibkgocieoaaGreatRm0
import Derived.Test.YtjimibkgocieoaaGreatRm21
import Derived.Carry
import Derived.Deep.Slices
import Derived.ProofKit
import Derived.Deep.Cut
import Derived.IntWalk
import Derived.Laws.Bits64
import Derived.Laws.Bits64b
import Derived.Test.YtjimibkgocieoaaGreatRm3
import Derived.Test.YtjimibkgocieoaaGreatRm16
import Derived.Outline
set_option maxHeartbeats 16000000
set_option maxRecDepth 100000
namespace Go.Proofs.YtjimibkgocieoaaGreat
open Go.RowKit Go.G9
theorem zb44 {p : Prop} (h : p := by
 clear z'; have z' := hZ.cs8; have fhZ' := hZ.fz8
 go_wp2
 clear z'
 refine st8 0 fun W9 tW9 => ?_
 replace HB := tW9.hc HB; replace hZ := tW9.all8 hZ; have z' := hZ.cs8
 refine bodyPost_ret (v := .tuple #[.agg #[.slice none 0 0, .slice none 0 0, .int .i64 0, .int .i64 0, .int .i64 0, .slice none 0 0, .slice none 0 0, .slice none 0 0], .bool false]) (by simp [results, Tryz.results9, go_sem, z']) rfl ?_
 exact ⟨rfl, HB⟩) : p := h
theorem iMake_is (A0 A1 A2 A3 A4 : Option Addr) (c0 c1 c2 c3 c4 : Nat) (rs : List Rul) (qs : List Que) (tu se sp : Int) (ws : List Int) (sh : List Sha) (os : List Out) (Z : MeeIn A0 A1 A2 A3 A4 c0 c1 c2 c3 c4 rs qs ws sh os) (kind mem val yes no abst : Int) (w : World) (R : MeR w A0 A1 A2 A3 A4 rs qs ws sh os) :
 Calls Tryz.prog 9 #[.agg #[.slice A0 rs.length c0, .slice A1 qs.length c1, .int .i64 tu, .int .i64 se, .int .i64 sp, .slice A2 ws.length c2, .slice A3 sh.length c3, .slice A4 os.length c4], .agg #[.int .i64 kind, .int .i64 mem, .int .i64 val, .int .i64 yes, .int .i64 no, .int .i64 abst]] w (ARes (if meetB ⟨rs, qs, tu, se, sp, ws, sh, os⟩ then mkA ⟨rs, qs, tu, se, sp, ws, sh, os⟩ ⟨kind, mem, val, yes, no, abst⟩ else none) w) := by
 have HR := lh R; have HZ := lh Z
 cases hm : meetP rs qs tu se sp ws sh os
 case false =>
  rw [if_neg (by rw [meetB]; dsimp only; rw [hm]; decide)]
  have HM := lh hm; clear R Z hm
  go_in
  go_upto_region 1 with fail
  refine lay3 fun wX hq1 hF hA hZ => ?_
  have HB := hq1; have f' := hF.cs8; have z' := hZ.cs8
  go_wp2_with fail
  refine (iMeet_is rs qs tu se sp ws sh os A0 A1 A2 A3 A4 c0 c1 c2 c3 c4 HZ.out.h0 HZ.out.h1 HZ.out.h2 HZ.out.h3 HZ.out.h4 _ HM.out _ (HR.out.r0.below (bth HB bel)) (HR.out.r1.below (bth HB bel)) (HR.out.r2.below (bth HB bel)) (HR.out.r3.below (bth HB bel)) (HR.out.r4.below (bth HB bel)) HZ.out.k0 HZ.out.k2).mono ?_
  rintro e w2 ⟨rfl, hb2⟩
  have hq2 := be wX hb2; replace HB := bth HB hq2; clear f'; replace hZ := hZ.to hq2
  exact zb44
 case true =>
  rw [if_pos (show meetB ⟨rs, qs, tu, se, sp, ws, sh, os⟩ = true from hm)]
  have hok := mee_ok.1 (show meetB ⟨rs, qs, tu, se, sp, ws, sh, os⟩ = true from hm); have HH := lh (fun W (hb : Below w.heap.size w W) => iMakeA_is A0 A1 A2 A3 A4 c0 c1 c2 c3 c4 rs qs tu se sp ws sh os Z kind mem val yes no abst hok W (R.below hb)); have HM := lh hm; clear R Z hm hok
  generalize mkA ⟨rs, qs, tu, se, sp, ws, sh, os⟩ ⟨kind, mem, val, yes, no, abst⟩ = o at *
  cases o with
  | none =>
   go_in
   go_upto_region 1 with fail
   refine lay3 fun wX hq1 hF hA hZ => ?_
   have HB := hq1; have f' := hF.cs8; have a' := hA.cs6; have z' := hZ.cs8
   go_wp2_with fail
   refine (iMeet_is rs qs tu se sp ws sh os A0 A1 A2 A3 A4 c0 c1 c2 c3 c4 HZ.out.h0 HZ.out.h1 HZ.out.h2 HZ.out.h3 HZ.out.h4 _ HM.out _ (HR.out.r0.below (bth HB bel)) (HR.out.r1.below (bth HB bel)) (HR.out.r2.below (bth HB bel)) (HR.out.r3.below (bth HB bel)) (HR.out.r4.below (bth HB bel)) HZ.out.k0 HZ.out.k2).mono ?_
   rintro e w2 ⟨rfl, hb2⟩
   have hq2 := be wX hb2; replace HB := bth HB hq2; replace hF := hF.to hq2; clear f'; have f' := hF.cs8; replace hA := hA.to hq2; clear a'; have a' := hA.cs6; replace hZ := hZ.to hq2; clear z'; have z' := hZ.cs8
   go_wp2_with fail
   refine (HH.out _ (bth HB bel)).mono ?_
   rintro e w3 ⟨rfl, hb3⟩
   have hq3 := be w2 hb3; replace HB := bth HB hq3; clear f'; clear a'; replace hZ := hZ.to hq3
   exact zb44
  | some n =>
   go_in
   go_upto_region 1 with fail
   refine lay3 fun wX hq1 hF hA hZ => ?_
   have HB := hq1; have f' := hF.cs8; have a' := hA.cs6; have z' := hZ.cs8; have hz0' := hZ.lt
   go_wp2_with fail
   refine (iMeet_is rs qs tu se sp ws sh os A0 A1 A2 A3 A4 c0 c1 c2 c3 c4 HZ.out.h0 HZ.out.h1 HZ.out.h2 HZ.out.h3 HZ.out.h4 _ HM.out _ (HR.out.r0.below (bth HB bel)) (HR.out.r1.below (bth HB bel)) (HR.out.r2.below (bth HB bel)) (HR.out.r3.below (bth HB bel)) (HR.out.r4.below (bth HB bel)) HZ.out.k0 HZ.out.k2).mono ?_
   rintro e w2 ⟨rfl, hb2⟩
   have hq2 := be wX hb2; replace HB := bth HB hq2; replace hF := hF.to hq2; clear f'; have f' := hF.cs8; replace hA := hA.to hq2; clear a'; have a' := hA.cs6; replace hZ := hZ.to hq2; clear z'; have z' := hZ.cs8; have szq9 := hq2.size
   go_wp2_with fail
   refine (HH.out _ (bth HB bel)).mono ?_
   rintro e w3 ⟨D0, d0, D1, d1, D2, d2, D3, d3, D4, d4, rfl, OO, hb3⟩
   have hq3 := be w2 hb3; replace HB := bth HB hq3; clear f'; clear a'; replace hZ := hZ.to hq3; clear z'; have z' := hZ.cs8; have O0 := OO.o0; have O1 := OO.o1; have O2 := OO.o2; have O3 := OO.o3; have O4 := OO.o4; clear OO; have neO0 := O0.nb hZ; have neO1 := O1.nb hZ; have neO2 := O2.nb hZ; have neO3 := O3.nb hZ; have neO4 := O4.nb hZ; have fhZ' := hZ.fz8
   go_wp2
   clear z'
   refine st8 0 fun W9 tW9 => ?_
   replace HB := tW9.hc HB; replace hZ := tW9.all8 hZ; replace O0 := O0.keptS tW9 neO0; replace O1 := O1.keptS tW9 neO1; replace O2 := O2.keptS tW9 neO2; replace O3 := O3.keptS tW9 neO3; replace O4 := O4.keptS tW9 neO4; have z' := hZ.cs8
   refine bodyPost_ret (v := .tuple #[.agg #[.slice D0 n.rules.length d0, .slice D1 n.pend.length d1, .int .i64 n.turns, .int .i64 n.secs, .int .i64 n.spk, .slice D2 n.wait.length d2, .slice D3 n.shares.length d3, .slice D4 n.outs.length d4], .bool true]) (by simp [results, Tryz.results9, go_sem, z']) rfl ?_
   exact zb110
theorem zb43 {p : Prop} (h : p := by
 clear z'; have z' := hZ.cs8; have fhZ' := hZ.fz8
 go_wp2
 clear z'
 refine st8 0 fun W9 tW9 => ?_
 replace HB := tW9.hc HB; replace hZ := tW9.all8 hZ; have z' := hZ.cs8
 refine bodyPost_ret (v := .tuple #[.agg #[.slice none 0 0, .slice none 0 0, .int .i64 0, .int .i64 0, .int .i64 0, .slice none 0 0, .slice none 0 0, .slice none 0 0], .bool false]) (by simp [results, Tryz.results10, go_sem, z']) rfl ?_
 exact ⟨rfl, HB⟩) : p := h
theorem sMake_is (A0 A1 A2 A3 A4 : Option Addr) (c0 c1 c2 c3 c4 : Nat) (rs : List Rul) (qs : List Que) (tu se sp : Int) (ws : List Int) (sh : List Sha) (os : List Out) (Z : MeeIn A0 A1 A2 A3 A4 c0 c1 c2 c3 c4 rs qs ws sh os) (kind mem val yes no abst : Int) (w : World) (R : MeR w A0 A1 A2 A3 A4 rs qs ws sh os) :
 Calls Tryz.prog 10 #[.agg #[.slice A0 rs.length c0, .slice A1 qs.length c1, .int .i64 tu, .int .i64 se, .int .i64 sp, .slice A2 ws.length c2, .slice A3 sh.length c3, .slice A4 os.length c4], .agg #[.int .i64 kind, .int .i64 mem, .int .i64 val, .int .i64 yes, .int .i64 no, .int .i64 abst]] w (ARes (if meetB ⟨rs, qs, tu, se, sp, ws, sh, os⟩ then mkA ⟨rs, qs, tu, se, sp, ws, sh, os⟩ ⟨kind, mem, val, yes, no, abst⟩ else none) w) := by
 have HR := lh R; have HZ := lh Z
 cases hm : meetP rs qs tu se sp ws sh os
 case false =>
  rw [if_neg (by rw [meetB]; dsimp only; rw [hm]; decide)]
  have HM := lh hm; clear R Z hm
  go_in
  go_upto_region 1 with fail
  refine lay3 fun wX hq1 hF hA hZ => ?_
  have HB := hq1; have f' := hF.cs8; have z' := hZ.cs8
  go_wp2_with fail
  refine (sMeet_is rs qs tu se sp ws sh os A0 A1 A2 A3 A4 c0 c1 c2 c3 c4 HZ.out.h0 HZ.out.h1 HZ.out.h2 HZ.out.h3 HZ.out.h4 _ HM.out _ (HR.out.r0.below (bth HB bel)) (HR.out.r1.below (bth HB bel)) (HR.out.r2.below (bth HB bel)) (HR.out.r3.below (bth HB bel)) (HR.out.r4.below (bth HB bel)) HZ.out.k0 HZ.out.k2).mono ?_
  rintro e w2 ⟨rfl, hb2⟩
  have hq2 := be wX hb2; replace HB := bth HB hq2; clear f'; replace hZ := hZ.to hq2
  exact zb43
 case true =>
  rw [if_pos (show meetB ⟨rs, qs, tu, se, sp, ws, sh, os⟩ = true from hm)]
  have hok := mee_ok.1 (show meetB ⟨rs, qs, tu, se, sp, ws, sh, os⟩ = true from hm); have HH := lh (fun W (hb : Below w.heap.size w W) => sMakeA_is A0 A1 A2 A3 A4 c0 c1 c2 c3 c4 rs qs tu se sp ws sh os Z kind mem val yes no abst hok W (R.below hb)); have HM := lh hm; clear R Z hm hok
  generalize mkA ⟨rs, qs, tu, se, sp, ws, sh, os⟩ ⟨kind, mem, val, yes, no, abst⟩ = o at *
  cases o with
  | none =>
   go_in
   go_upto_region 1 with fail
   refine lay3 fun wX hq1 hF hA hZ => ?_
   have HB := hq1; have f' := hF.cs8; have a' := hA.cs6; have z' := hZ.cs8
   go_wp2_with fail
   refine (sMeet_is rs qs tu se sp ws sh os A0 A1 A2 A3 A4 c0 c1 c2 c3 c4 HZ.out.h0 HZ.out.h1 HZ.out.h2 HZ.out.h3 HZ.out.h4 _ HM.out _ (HR.out.r0.below (bth HB bel)) (HR.out.r1.below (bth HB bel)) (HR.out.r2.below (bth HB bel)) (HR.out.r3.below (bth HB bel)) (HR.out.r4.below (bth HB bel)) HZ.out.k0 HZ.out.k2).mono ?_
   rintro e w2 ⟨rfl, hb2⟩
   have hq2 := be wX hb2; replace HB := bth HB hq2; replace hF := hF.to hq2; clear f'; have f' := hF.cs8; replace hA := hA.to hq2; clear a'; have a' := hA.cs6; replace hZ := hZ.to hq2; clear z'; have z' := hZ.cs8
   go_wp2_with fail
   refine (HH.out _ (bth HB bel)).mono ?_
   rintro e w3 ⟨rfl, hb3⟩
   have hq3 := be w2 hb3; replace HB := bth HB hq3; clear f'; clear a'; replace hZ := hZ.to hq3
   exact zb43
  | some n =>
   go_in
   go_upto_region 1 with fail
   refine lay3 fun wX hq1 hF hA hZ => ?_
   have HB := hq1; have f' := hF.cs8; have a' := hA.cs6; have z' := hZ.cs8; have hz0' := hZ.lt
   go_wp2_with fail
   refine (sMeet_is rs qs tu se sp ws sh os A0 A1 A2 A3 A4 c0 c1 c2 c3 c4 HZ.out.h0 HZ.out.h1 HZ.out.h2 HZ.out.h3 HZ.out.h4 _ HM.out _ (HR.out.r0.below (bth HB bel)) (HR.out.r1.below (bth HB bel)) (HR.out.r2.below (bth HB bel)) (HR.out.r3.below (bth HB bel)) (HR.out.r4.below (bth HB bel)) HZ.out.k0 HZ.out.k2).mono ?_
   rintro e w2 ⟨rfl, hb2⟩
   have hq2 := be wX hb2; replace HB := bth HB hq2; replace hF := hF.to hq2; clear f'; have f' := hF.cs8; replace hA := hA.to hq2; clear a'; have a' := hA.cs6; replace hZ := hZ.to hq2; clear z'; have z' := hZ.cs8; have szq9 := hq2.size
   go_wp2_with fail
   refine (HH.out _ (bth HB bel)).mono ?_
   rintro e w3 ⟨D0, d0, D1, d1, D2, d2, D3, d3, D4, d4, rfl, OO, hb3⟩
   have hq3 := be w2 hb3; replace HB := bth HB hq3; clear f'; clear a'; replace hZ := hZ.to hq3; clear z'; have z' := hZ.cs8; have O0 := OO.o0; have O1 := OO.o1; have O2 := OO.o2; have O3 := OO.o3; have O4 := OO.o4; clear OO; have neO0 := O0.nb hZ; have neO1 := O1.nb hZ; have neO2 := O2.nb hZ; have neO3 := O3.nb hZ; have neO4 := O4.nb hZ; have fhZ' := hZ.fz8
   go_wp2
   clear z'
   refine st8 0 fun W9 tW9 => ?_
   replace HB := tW9.hc HB; replace hZ := tW9.all8 hZ; replace O0 := O0.keptS tW9 neO0; replace O1 := O1.keptS tW9 neO1; replace O2 := O2.keptS tW9 neO2; replace O3 := O3.keptS tW9 neO3; replace O4 := O4.keptS tW9 neO4; have z' := hZ.cs8
   refine bodyPost_ret (v := .tuple #[.agg #[.slice D0 n.rules.length d0, .slice D1 n.pend.length d1, .int .i64 n.turns, .int .i64 n.secs, .int .i64 n.spk, .slice D2 n.wait.length d2, .slice D3 n.shares.length d3, .slice D4 n.outs.length d4], .bool true]) (by simp [results, Tryz.results10, go_sem, z']) rfl ?_
   exact zb110
end Go.Proofs.YtjimibkgocieoaaGreat
namespace Go.G9
open Go.ChangeShapes Go.WideShapes Go.ChangeAt Go.RowKit Go.Deep
section
variable {H : Type} {enc : TypeId × Value → H} {P : Program}
theorem trodAll_below (hl : laidOutB P = true) {W W' : World} (hb : Below W.heap.size W W') : ∀ {ts : List TypeId} {vs : List Value} {ds : List (DataW H)} {ps : List MemPlace},
  (∀ t ∈ ts, P.readableRec t = true ∧ t < P.types.size) → (∀ x ∈ ps, x.block < W.heap.size) → DataW.TrodAll enc P W 0 (fun _ => true) true ts vs ds ps →
  DataW.TrodAll enc P W' 0 (fun b => decide (b < W.heap.size)) true ts vs ds ps
 | [], [], [], _, _, _, h => h
 | t :: ts, v :: vs, d :: ds, ps, ht, hlt, h => by
  obtain ⟨p, q, h1, h2, e⟩ := h
  have ht0 := ht t (List.mem_cons.2 (Or.inl rfl))
  exact ⟨p, q, Below.trod hl ht0.1 ht0.2 h1 hb (fun x hx => hlt x (by rw [e]; exact List.mem_append_left _ hx)),
   trodAll_below hl hb (fun t' h' => ht t' (List.mem_cons.2 (Or.inr h'))) (fun x hx => hlt x (by rw [e]; exact List.mem_append_right _ hx)) h2, e⟩
 | [], [], _ :: _, _, _, _, h => h.elim
 | [], _ :: _, _, _, _, _, h => h.elim
 | _ :: _, [], _, _, _, _, h => h.elim
 | _ :: _, _ :: _, [], _, _, _, h => h.elim
theorem trodAll_len {w : World} {base : Nat} {sp : Nat → Bool} {hd : Bool} : ∀ {ts : List TypeId} {vs : List Value} {ds : List (DataW H)} {ps : List MemPlace}, DataW.TrodAll enc P w base sp hd ts vs ds ps → ds.length = ts.length
 | [], [], [], _, _ => rfl
 | _ :: _, _ :: _, _ :: _, _, h => by obtain ⟨_, _, _, h2, _⟩ := h; simp [trodAll_len h2]
 | [], [], _ :: _, _, h => h.elim
 | [], _ :: _, _, _, h => h.elim
 | _ :: _, [], _, _, h => h.elim
 | _ :: _, _ :: _, [], _, h => h.elim

theorem law_post {fn : Func} {s : ChangeSpec} {W W' : World} {args : Array Value} {ds gs : List (DataW H)} {before : List MemPlace} {rt : TypeId}
  (hlaid : laidOutB P = true) (hread : ∀ t ∈ fn.params.toList, P.readableRec t = true ∧ t < P.types.size) (hrt : fn.resultTypes = #[rt]) (hbool : P.underlying rt = some .bool) (hvars : s.vars = [])
  (hspec : ∀ l : List (DataW H), l.length = fn.params.toList.length → s.fn H (l ++ []) = { results := [.lit (.bool true)], args := l })
  (hW : DataW.Whole enc P fn.params.toList s.vars false W args.toList ds gs before) (hb : Below W.heap.size W W') : s.post enc P fn false true false false W args (.bool true) W' := by
 have hlt := hW.lt; have hW' := hW
 obtain ⟨p, q, hA, hV, rfl, hfz, hnd⟩ := hW
 rw [hvars] at hV
 obtain ⟨rfl, rfl⟩ := trodVars_none hV
 have hsp := hspec ds (trodAll_len hA)
 refine ⟨ds, [], p ++ [], [], p, [], hW', ?_, ?_, ?_, hb.frame _, fun h => by cases h⟩
 ·rw [hsp, hrt]; exact trodAll_mk1 (shut_bool hbool true)
 ·rw [hsp]; exact trodAll_below hlaid hb hread (fun x hx => hlt x (by simpa using hx)) hA
 ·rw [hsp, hvars]; rfl

theorem law_lift {C : Checked} {os : Os} {f : FuncId} {fn : Func} {s : ChangeSpec} {rt : TypeId} (own : ownKnob C.prog.godebug = none) (started : os.Started) (noInit : C.prog.inits.idxOf? f = none) (hfn : C.prog.funcs[f]? = some fn)
  (witness : ∃ (w : World) (tape : Tape) (i : Input), w.os = os ∧ (w.forCall tape i).Shaped C.prog ∧ i.vars = [] ∧ Input.okWide C.prog (w.forCall tape i) .any w.heap.size f i ∧
   s.pre6 enc C.prog fn [] false (w.forCall tape i).memory i.args ∧ ({} : Assume).holds C.prog (lone (Frame.enter C.prog f i.args .normal) [] (w.forCall tape i)))
  (hlaid : laidOutB C.prog = true) (hread : ∀ t ∈ fn.params.toList, C.prog.readableRec t = true ∧ t < C.prog.types.size) (hrt : fn.resultTypes = #[rt]) (hbool : C.prog.underlying rt = some .bool) (hvars : s.vars = [])
  (hspec : ∀ l : List (DataW H), l.length = fn.params.toList.length → s.fn H (l ++ []) = { results := [.lit (.bool true)], args := l })
  (walk : ∀ (W : World) (base : Nat) (args : Array Value) (ds : List (DataW H)) (p : List MemPlace), (∀ (j : Nat) t v, fn.params[j]? = some t → args[j]? = some v → Value.okWide C.prog W .any base t v) →
   DataW.TrodAll enc C.prog W 0 (fun _ => true) true fn.params.toList args.toList ds p → Calls C.prog f args W fun e W' => e = .returned (.bool true) ∧ Below W.heap.size W W') :
  ReturnsInHanded {} C os f .any (s.pre6 enc C.prog fn [] false) (s.post enc C.prog fn false true false false) := by
 refine returnsInHanded_of_change (C := C) own started noInit hfn witness ?_
 intro W base args ds gs before hval hW _ _
 have hW' := hW
 obtain ⟨p, q, hA, _, _, _, _⟩ := hW
 exact (walk W base args ds p hval hA).mono fun e W' ⟨he, hb⟩ => ⟨_, he, law_post hlaid hread hrt hbool hvars hspec hW' hb⟩

variable {w : World} {base : Nat} {sp : Nat → Bool} {hd : Bool}
theorem spot_of_cell {w : World} {a : Addr} {v : Value} (h : w.cell? a = some v) : a.spot = none := by
 unfold World.cell? at h
 split at h
 ·split at h
  ·cases h
  ·rename_i hs; simpa using hs
 ·cases h
theorem rd_slicen {T : Type} (f : T → List Value) (sz : Nat) (hsz : 0 < sz) {t e : TypeId} (ht : P.underlying t = some (.slice e)) (hC : P.cellsOf e = sz)
  (helem : ∀ fuel cs x, DataW.trod enc P w base sp hd fuel e cs = some x → ∃ y : T, cs = f y) {fuel : Nat} {cs : List Value} {x : DataW H × List MemPlace} (h : DataW.trod enc P w base sp hd fuel t cs = some x) :
  ∃ (A : Option Addr) (c : Nat) (xs : List T), cs = [.slice A xs.length c] ∧ xs.length ≤ maxLen ∧ Rds sz f w A xs ∧ (A = none → xs = [] ∧ c = 0) := by
 rcases open_slice ht h with ⟨rfl, _⟩ | ⟨a, len, cap, m, n, D, Pl, rfl, _, hlc, hcm, hm, _, hi⟩
 ·exact ⟨none, 0, [], rfl, by simp, Rds.nil, fun _ => ⟨rfl, rfl⟩⟩
 ·have hle : len ≤ m := by rw [hm]; split <;> omega
  have hex : ∀ i, i < len → ∃ y : T, w.cells? base (a.add (i * sz)) sz = some (f y) := fun i hil => by
   obtain ⟨cs', hcs, htr⟩ := hi i (by omega)
   obtain ⟨y, rfl⟩ := helem _ _ _ htr
   exact ⟨y, by rw [hC] at hcs; exact hcs⟩
  have hall : ∀ k, k ≤ len → ∃ l : List T, l.length = k ∧ ∀ i y, l[i]? = some y → w.cells? base (a.add (i * sz)) sz = some (f y) := by
   intro k
   induction k with
   | zero => intro _; exact ⟨[], rfl, by simp⟩
   | succ k ih =>
    intro hk
    obtain ⟨l, hll, hlc⟩ := ih (by omega)
    obtain ⟨y, hy⟩ := hex k (by omega)
    refine ⟨l ++ [y], by simp [hll], fun i z hz => ?_⟩
    rw [List.getElem?_append] at hz
    split at hz
    ·exact hlc i z hz
    ·have h0 : i = k := by have := (List.getElem?_eq_some_iff.1 hz).1; simp at this; omega
     subst h0
     rw [hll] at hz; simp at hz; subst hz; exact hy
  obtain ⟨l, hll, hcell⟩ := hall len (Nat.le_refl _)
  refine ⟨some a, cap, l, by rw [hll], by omega, fun hn => ?_, fun h => by cases h⟩
  have at0 : ∀ i y, l[i]? = some y → ∀ j u, (f y)[j]? = some u → w.cell? ((a.add (i * sz)).add j) = some u := fun i y hy j u hu => by
   obtain ⟨_, hcl, hat⟩ := World.cells?_some (hcell i y hy)
   have hj : j < sz := by rw [← hcl]; exact (List.getElem?_eq_some_iff.1 hu).1
   rw [hat j hj]; exact hu
  obtain ⟨y0, hy0⟩ : ∃ y, l[0]? = some y := ⟨_, List.getElem?_eq_getElem hn⟩
  obtain ⟨_, hcl0, _⟩ := World.cells?_some (hcell 0 y0 hy0)
  have hu0 : (f y0)[0]? = some ((f y0)[0]'(by omega)) := List.getElem?_eq_getElem _; have c0 := at0 0 y0 hy0 0 _ hu0
  rw [Nat.zero_mul, show (a.add 0).add 0 = a from by simp [Addr.add]] at c0
  have hs := spot_of_cell c0
  obtain ⟨b, off, spot⟩ := a
  simp only at hs; subst hs
  refine ⟨b, off, rfl, World.block_lt_of_cell? w _ c0, fun i x hx j u hu => ?_⟩
  have := at0 i x hx j u hu
  rw [add_add] at this
  rw [← this]
  congr 1
  unfold Addr.add
  split <;> simp_all [Nat.add_assoc]
theorem rd_slice {T : Type} (f : T → List Value) (sz : Nat) (hsz : 0 < sz) {t e : TypeId} (ht : P.underlying t = some (.slice e)) (hC : P.cellsOf e = sz)
  (helem : ∀ fuel cs x, DataW.trod enc P w base sp hd fuel e cs = some x → ∃ y : T, cs = f y) {fuel : Nat} {cs : List Value} {x : DataW H × List MemPlace} (h : DataW.trod enc P w base sp hd fuel t cs = some x) :
  ∃ (A : Option Addr) (c : Nat) (xs : List T), cs = [.slice A xs.length c] ∧ xs.length ≤ maxLen ∧ Rds sz f w A xs := by
 obtain ⟨A, c, xs, h1, h2, h3, _⟩ := rd_slicen f sz hsz ht hC helem h
 exact ⟨A, c, xs, h1, h2, h3⟩
end
open Go.RowKit
theorem wrap64u (n : Int) : 0 ≤ IntKind.u64.wrap n ∧ IntKind.u64.wrap n < 18446744073709551616 := by
  rw [IntKind.wrap_u64]; omega
theorem and255 {s : Int} (h0 : 0 ≤ s) (h1 : s < 18446744073709551616) : 0 ≤ wrap64 (bits .and .u64 (s / 1099511627776) 255) ∧ wrap64 (bits .and .u64 (s / 1099511627776) 255) ≤ 255 := by
  obtain ⟨n, hn⟩ : ∃ n : Nat, (n : Int) = s / 1099511627776 := ⟨(s / 1099511627776).toNat, by omega⟩
  have h2 := bits_and_u64_nat n 255 (by omega) (by omega)
  rw [← hn, show (255 : Int) = ((255 : Nat) : Int) from rfl, h2]
  have h3 : n &&& 255 ≤ 255 := Nat.and_le_right
  unfold wrap64
  omega
theorem _root_.Go.G9.Blk.grownB {w w' : World} {g p : Nat} {t : TypeId} {cs : Array Value} (h : Blk w g t cs) (hg : w.grownBy w' (some p)) (hne : g ≠ p) : Blk w' g t cs :=
  (hg.block g h.lt (fun e => hne (Option.some.inj e))).trans h
theorem grown_store {w W : World} {p g : Nat} (h : w.grownBy W (some p)) (hg : w.heap.size ≤ g) (j : Nat) (u : Value) : w.grownBy (W.setCell ⟨g, j, none⟩ u) (some p) :=
  ⟨h.os, h.tape, h.output, by simpa [World.setCell] using h.size, fun i hi hne => (Below.heap_setCell W _ u i (by show i ≠ g; omega)).trans (h.block i hi hne)⟩
theorem rds_far {T : Type} {sz : Nat} {f : T → List Value} {w w' : World} {A : Option Addr} {xs : List T} {p : Nat} (h : Rds sz f w A xs) (hg : w.grownBy w' (some p)) (hne : ∀ ad, A = some ad → 0 < xs.length → ad.block ≠ p) : Rds sz f w' A xs := by
  by_cases hn : 0 < xs.length
  · exact h.grown hg (fun ad ha e => hne ad ha hn (Option.some.inj e))
  · have : xs = [] := List.length_eq_zero_iff.1 (by omega)
    subst this; exact Rds.nil
def u8C (x : UInt8) : List Value := [.int .u8 (x.toNat : Int)]
end Go.G9
namespace Go.Proofs.YtjimibkgocieoaaGreat
open Go.RowKit Go.G9
structure Cur (w : World) (p : Nat) (A : Option Addr) (c : Nat) (cs : List UInt8) (N : Nat) : Prop where
  box : ∃ (i s : Int), Blk w p 95 #[.slice A cs.length c, .int .i64 i, .int .u64 s] ∧ 0 ≤ i ∧ i ≤ N
  rds : Rds 1 u8C w A cs
  lo : ∀ ad, A = some ad → 0 < cs.length → ad.block < p
theorem next_is (p : Nat) (A : Option Addr) (c : Nat) (cs : List UInt8) (hcs : cs.length ≤ 1048576) (N : Nat) (hN : N ≤ 1000000) (w : World) (h : Cur w p A c cs N) :
  Calls Tryz.prog 133 #[.pointer (some ⟨p, 0, none⟩)] w fun e w' => ∃ r : Int, e = .returned (.int .i64 r) ∧ 0 ≤ r ∧ r ≤ 255 ∧ Cur w' p A c cs (N + 1) ∧ w.grownBy w' (some p) := by
  obtain ⟨⟨i, s, hB, hi0, hi1⟩, hR, hlo⟩ := h
  have hne : ∀ ad, A = some ad → 0 < cs.length → ad.block ≠ p := fun ad h1 h2 => Nat.ne_of_lt (hlo ad h1 h2)
  obtain ⟨k, rfl⟩ : ∃ k : Nat, i = k := ⟨i.toNat, by omega⟩
  have hl := hB.lt
  have x0 := fun K : Kin w.heap.size w => ((hB.below K.below hB.lt).cell 0).trans (show _ = some (.slice A cs.length c) from rfl)
  have x1 := fun K : Kin w.heap.size w => ((hB.below K.below hB.lt).cell 1).trans (show _ = some (.int .i64 (k : Int)) from rfl)
  have x2 := fun K : Kin w.heap.size w => ((hB.below K.below hB.lt).cell 2).trans (show _ = some (.int .u64 s) from rfl)
  by_cases hlt : k < cs.length
  · obtain ⟨b0, off0, x', hA0, hbl0, hx0, hcx0⟩ := hR.at_ (Below.refl _ _) hlt
    have f0 := hcx0 0 _ rfl; clear hx0 hcx0 hA0 hbl0
    go_enter Tryz.func133, Tryz.ntmps133
    go_wp2
    refine wp_region_kin (by kernel_rfl) (by kernel_rfl) ?_
    repeat (go_big_quiet_step ((fail)))
    refine wpQuiet_nil ?_
    intro K0
    have hq0 := K0.below; have hB0 := hB.below K0.below hl; have hg0 : w.grownBy K0.world (some p) := bgr K0.below _; have hR0 := hR.below K0.below; clear x0 x1 x2 f0
    generalize K0.world = W0 at *
    obtain ⟨b, off, x, hA, hbl, hx, hcx⟩ := hR0.at_ (Below.refl _ _) hlt
    have f0 := hcx 0 _ rfl
    simp only [Nat.mul_one, Nat.add_zero] at f0
    have hx2 := x.toNat_lt
    have hx3 : (x.toNat : Int) ≤ 255 := by omega
    have hx4 : (0 : Int) ≤ (x.toNat : Int) := by omega
    have HX := Lib.hid hx
    subst hA
    clear hx hcx hx2; have yl0 := hB0.lt
    have x0 := fun K : Kin W0.heap.size W0 => ((hB0.below K.below hB0.lt).cell 0).trans (show _ = some (.slice (some ⟨b, off, none⟩) cs.length c) from rfl)
    have x1 := fun K : Kin W0.heap.size W0 => ((hB0.below K.below hB0.lt).cell 1).trans (show _ = some (.int .i64 (k : Int)) from rfl)
    go_wp2
    refine wp_region_kin (by kernel_rfl) (by kernel_rfl) ?_
    repeat (go_big_quiet_step ((fail)))
    refine wpQuiet_nil ?_
    intro K
    go_upto_region 4 with fail
    clear x0 x1 f0; have hB4 := hB0.below K.below yl0; have hg4 := grown_tr hg0 (bgr K.below (some p))
    generalize K.world = W at *
    have y := hB4.lt; have x1 := (hB4.cell 1).trans (show _ = some (.int .i64 (k : Int)) from rfl); have f1 := hB4.frozen 1
    go_upto_region 5 with fail
    clear x1 f1; replace hB4 : Blk (World.setCell W ⟨p, 1, none⟩ (.int .i64 ((k : Int) + 1))) p 95 #[.slice (some ⟨b, off, none⟩) cs.length c, .int .i64 ((k : Int) + 1), .int .u64 s] := hB4.set_ 1 _; replace hg4 := grown_set (j := 1) hg4 (.int .i64 ((k : Int) + 1))
    generalize World.setCell W ⟨p, 1, none⟩ (.int .i64 ((k : Int) + 1)) = W1 at *
    replace y := hB4.lt; have x2 := (hB4.cell 2).trans (show _ = some (.int .u64 s) from rfl); have f2 := hB4.frozen 2
    go_upto_region 6 with fail
    clear x2 f2
    obtain ⟨s2, hs2⟩ : ∃ s2, s2 = IntKind.u64.wrap (IntKind.u64.wrap (IntKind.u64.wrap (s * 6364136223846793005) + (x.toNat : Int)) + 909909) := ⟨_, rfl⟩
    have hw := wrap64u (IntKind.u64.wrap (IntKind.u64.wrap (s * 6364136223846793005) + (x.toNat : Int)) + 909909)
    rw [← hs2] at hw ⊢
    clear hs2; replace hB4 : Blk (World.setCell W1 ⟨p, 2, none⟩ (.int .u64 s2)) p 95 #[.slice (some ⟨b, off, none⟩) cs.length c, .int .i64 ((k : Int) + 1), .int .u64 s2] := hB4.set_ 2 _; replace hg4 := grown_set (j := 2) hg4 (.int .u64 s2)
    generalize World.setCell W1 ⟨p, 2, none⟩ (.int .u64 s2) = W2 at *
    replace y := hB4.lt
    have x0 := fun K : Kin W2.heap.size W2 => ((hB4.below K.below hB4.lt).cell 0).trans (show _ = some (.slice (some ⟨b, off, none⟩) cs.length c) from rfl)
    have x1 := fun K : Kin W2.heap.size W2 => ((hB4.below K.below hB4.lt).cell 1).trans (show _ = some (.int .i64 ((k : Int) + 1)) from rfl)
    have hle : (k : Int) + 1 ≤ (cs.length : Int) := by omega
    go_wp2
    refine wp_region_kin (by kernel_rfl) (by kernel_rfl) ?_
    repeat (go_big_quiet_step ((fail)))
    refine wpQuiet_nil ?_
    intro K2
    clear x0 x1; have hB6 := hB4.below K2.below y; have hg6 := grown_tr hg4 (bgr K2.below (some p))
    generalize K2.world = W3 at *
    replace y := hB6.lt; have x2 := (hB6.cell 2).trans (show _ = some (.int .u64 s2) from rfl)
    go_wp2
    go_ret
    refine ⟨_, rfl, ?_, ?_, ⟨⟨_, _, hB6, by omega, by omega⟩, rds_far hR hg6 hne, hlo⟩, hg6⟩
    · exact hx4
    · exact hx3
  · go_enter Tryz.func133, Tryz.ntmps133
    go_wp2
    refine wp_region_kin (by kernel_rfl) (by kernel_rfl) ?_
    repeat (go_big_quiet_step ((fail)))
    refine wpQuiet_nil ?_
    intro K
    go_upto_region 4 with fail
    clear x0 x1 x2; have hB4 := hB.below K.below hl; have hg4 : w.grownBy K.world (some p) := bgr K.below _
    generalize K.world = W at *
    have y := hB4.lt; have x1 := (hB4.cell 1).trans (show _ = some (.int .i64 (k : Int)) from rfl); have f1 := hB4.frozen 1
    go_upto_region 5 with fail
    clear x1 f1; replace hB4 : Blk (World.setCell W ⟨p, 1, none⟩ (.int .i64 ((k : Int) + 1))) p 95 #[.slice A cs.length c, .int .i64 ((k : Int) + 1), .int .u64 s] := hB4.set_ 1 _; replace hg4 := grown_set (j := 1) hg4 (.int .i64 ((k : Int) + 1))
    generalize World.setCell W ⟨p, 1, none⟩ (.int .i64 ((k : Int) + 1)) = W1 at *
    replace y := hB4.lt; have x2 := (hB4.cell 2).trans (show _ = some (.int .u64 s) from rfl); have f2 := hB4.frozen 2
    go_upto_region 6 with fail
    clear x2 f2
    obtain ⟨s2, hs2⟩ : ∃ s2, s2 = IntKind.u64.wrap (IntKind.u64.wrap (IntKind.u64.wrap (s * 6364136223846793005)) + 909909) := ⟨_, rfl⟩
    have hw := wrap64u (IntKind.u64.wrap (IntKind.u64.wrap (s * 6364136223846793005)) + 909909)
    rw [← hs2] at hw ⊢
    clear hs2; replace hB4 : Blk (World.setCell W1 ⟨p, 2, none⟩ (.int .u64 s2)) p 95 #[.slice A cs.length c, .int .i64 ((k : Int) + 1), .int .u64 s2] := hB4.set_ 2 _; replace hg4 := grown_set (j := 2) hg4 (.int .u64 s2)
    generalize World.setCell W1 ⟨p, 2, none⟩ (.int .u64 s2) = W2 at *
    replace y := hB4.lt
    have x0 := fun K : Kin W2.heap.size W2 => ((hB4.below K.below hB4.lt).cell 0).trans (show _ = some (.slice A cs.length c) from rfl)
    have x1 := fun K : Kin W2.heap.size W2 => ((hB4.below K.below hB4.lt).cell 1).trans (show _ = some (.int .i64 ((k : Int) + 1)) from rfl)
    have hgt : ¬ (k : Int) + 1 ≤ (cs.length : Int) := by omega
    go_wp2
    refine wp_region_kin (by kernel_rfl) (by kernel_rfl) ?_
    repeat (go_big_quiet_step ((fail)))
    refine wpQuiet_nil ?_
    intro K2
    clear x0 x1; have hB6 := hB4.below K2.below y; have hg6 := grown_tr hg4 (bgr K2.below (some p))
    generalize K2.world = W3 at *
    replace y := hB6.lt; have x2 := (hB6.cell 2).trans (show _ = some (.int .u64 s2) from rfl)
    go_wp2
    go_ret
    refine ⟨_, rfl, ?_, ?_, ⟨⟨_, _, hB6, by omega, by omega⟩, rds_far hR hg6 hne, hlo⟩, hg6⟩
    · exact (and255 hw.1 hw.2).1
    · exact (and255 hw.1 hw.2).2
theorem Cur.mono {w : World} {p : Nat} {A : Option Addr} {c : Nat} {cs : List UInt8} {N M : Nat} (h : Cur w p A c cs N) (hM : N ≤ M) : Cur w p A c cs M := by
  obtain ⟨⟨i, s, hB, h0, h1⟩, hR, hne⟩ := h
  exact ⟨⟨i, s, hB, h0, by omega⟩, hR, hne⟩
theorem Cur.lt {w : World} {p : Nat} {A : Option Addr} {c : Nat} {cs : List UInt8} {N : Nat} (h : Cur w p A c cs N) : p < w.heap.size := by
  obtain ⟨⟨i, s, hB, h0, h1⟩, hR, hne⟩ := h
  exact hB.lt
theorem Cur.later {w w' : World} {p : Nat} {A : Option Addr} {c : Nat} {cs : List UInt8} {N : Nat} (h : Cur w p A c cs N) (hb : Below w.heap.size w w') : Cur w' p A c cs N := by
  obtain ⟨⟨i, s, hB, h0, h1⟩, hR, hne⟩ := h
  exact ⟨⟨i, s, hB.below hb hB.lt, h0, h1⟩, hR.below hb, hne⟩
theorem Cur.store {w : World} {p : Nat} {A : Option Addr} {c : Nat} {cs : List UInt8} {N : Nat} (h : Cur w p A c cs N) {g : Nat} (hg : p < g) (j : Nat) (u : Value) : Cur (w.setCell ⟨g, j, none⟩ u) p A c cs N := by
  obtain ⟨⟨i, s, hB, h0, h1⟩, hR, hne⟩ := h
  have hgr := grown_set (j := j) (g := g) (grown_refl w (some g)) u
  exact ⟨⟨i, s, hB.grownB hgr (by omega), h0, h1⟩, rds_far hR hgr (fun ad h2 h3 => by have := hne ad h2 h3; omega), hne⟩
def Stepped (w w' : World) (p : Nat) (A : Option Addr) (c : Nat) (cs : List UInt8) (N : Nat) : Prop := Cur w' p A c cs N ∧ w.grownBy w' (some p)
theorem Stepped.size {w w' : World} {p : Nat} {A : Option Addr} {c : Nat} {cs : List UInt8} {N : Nat} (h : Stepped w w' p A c cs N) : w.heap.size ≤ w'.heap.size := h.2.size
theorem pick_is (n : Int) (p : Nat) (A : Option Addr) (c : Nat) (cs : List UInt8) (hcs : cs.length ≤ 1048576) (N : Nat) (hN : N ≤ 900000) (hn : n ≤ 1000000000) (w : World) (h : Cur w p A c cs N) :
  Calls Tryz.prog 72 #[.pointer (some ⟨p, 0, none⟩), .int .i64 n] w fun e w' => ∃ r : Int, e = .returned (.int .i64 r) ∧ (0 ≤ r ∧ (n ≤ 1 → r = 0) ∧ (1 < n → r < n)) ∧ Stepped w w' p A c cs (N + 2) := by
  by_cases h1 : n ≤ 1
  · go_enter Tryz.func72, Tryz.ntmps72
    go_wp2
    go_ret
    exact ⟨0, rfl, ⟨by omega, fun _ => rfl, fun _ => by omega⟩, h.mono (by omega), grown_refl _ _⟩
  · by_cases h2 : n ≤ 200
    · have h2' : ¬ 200 < n := by omega
      go_enter Tryz.func72, Tryz.ntmps72
      go_wp2_with fail
      refine (next_is p A c cs hcs N (by omega) _ h).mono ?_
      rintro e w1 ⟨r, rfl, hr0, hr1, hC, hg⟩
      go_wp2
      go_ret
      exact ⟨_, rfl, ⟨Int.emod_nonneg _ (by omega), fun h => by omega, fun _ => Int.emod_lt_of_pos _ (by omega)⟩, hC.mono (by omega), hg⟩
    · have h2' : 200 < n := by omega
      go_enter Tryz.func72, Tryz.ntmps72
      go_wp2_with fail
      refine (next_is p A c cs hcs N (by omega) _ h).mono ?_
      rintro e w1 ⟨r, rfl, hr0, hr1, hC, hg⟩
      go_wp2_with fail
      refine (next_is p A c cs hcs (N + 1) (by omega) _ hC).mono ?_
      rintro e w2 ⟨r2, rfl, hr20, hr21, hC2, hg2⟩
      go_wp2
      go_ret
      exact ⟨_, rfl, ⟨Int.emod_nonneg _ (by omega), fun h => by omega, fun _ => Int.emod_lt_of_pos _ (by omega)⟩, hC2, grown_tr hg hg2⟩
theorem one_is (n : Int) (p : Nat) (A : Option Addr) (c : Nat) (cs : List UInt8) (hcs : cs.length ≤ 1048576) (N : Nat) (hN : N ≤ 900000) (hn : n ≤ 1000000000) (w : World) (h : Cur w p A c cs N) :
  Calls Tryz.prog 73 #[.pointer (some ⟨p, 0, none⟩), .int .i64 n] w fun e w' => ∃ b : Bool, e = .returned (.bool b) ∧ Stepped w w' p A c cs (N + 2) := by
  go_enter Tryz.func73, Tryz.ntmps73
  go_wp2_with fail
  refine (pick_is n p A c cs hcs N hN hn _ h).mono ?_
  rintro e w1 ⟨r, rfl, _, hS⟩
  go_wp2
  go_ret
  exact ⟨_, rfl, hS⟩
def bC (x : ByteArray) : List Value := [.string x]
theorem bC_len (y : ByteArray) : (bC y).length = 1 := rfl
theorem zb20 {p : Prop} (h : p := by
 go_wp2_with fail
 refine (pick_is xs.length p A c cs hcs N hN (by omega) _ h).mono ?_
 rintro e w1 ⟨r, rfl, ⟨hr0, hr1, hr2⟩, hS⟩
 have hr : r < xs.length := by
   by_cases h1 : (1 : Int) < xs.length
   · exact hr2 h1
   · rw [hr1 (by omega)]; omega
 obtain ⟨k, rfl⟩ : ∃ k : Nat, r = k := ⟨r.toNat, by omega⟩
 have hk : k < xs.length := by omega
 have hL1 := rds_far hL hS.2 hne
 obtain ⟨b, off, x, rfl, hbl, hx, hcx⟩ := hL1.at_ (Below.refl _ _) hk
 have f0 := hcx 0 _ rfl (Kin.self _)
 simp only [Nat.mul_one, Nat.add_zero, Kin.self] at f0
 have HX := Lib.hid hx; clear hx hcx hr1 hr2 hL hL1
 go_wp2
 go_ret
 exact ⟨x, rfl, List.mem_of_getElem? HX.out, hS⟩) : p := h
theorem of_is (L : Option Addr) (lc : Nat) (xs : List ByteArray) (hx0 : 1 ≤ xs.length) (hx1 : xs.length ≤ 1000) (p : Nat) (A : Option Addr) (c : Nat) (cs : List UInt8) (hcs : cs.length ≤ 1048576) (N : Nat) (hN : N ≤ 900000) (w : World) (h : Cur w p A c cs N)
    (hL : Rds 1 bC w L xs) (hne : ∀ ad, L = some ad → 0 < xs.length → ad.block ≠ p) :
  Calls Tryz.prog 185 #[.pointer (some ⟨p, 0, none⟩), .slice L xs.length lc] w fun e w' => ∃ s, e = .returned (.string s) ∧ s ∈ xs ∧ Stepped w w' p A c cs (N + 2) := by
  go_enter Tryz.func185, Tryz.ntmps185
  exact zb20
theorem among_is (L : Option Addr) (lc : Nat) (xs : List Int) (hx0 : 1 ≤ xs.length) (hx1 : xs.length ≤ 1000) (p : Nat) (A : Option Addr) (c : Nat) (cs : List UInt8) (hcs : cs.length ≤ 1048576) (N : Nat) (hN : N ≤ 900000) (w : World) (h : Cur w p A c cs N)
    (hL : Rds 1 intC w L xs) (hne : ∀ ad, L = some ad → 0 < xs.length → ad.block ≠ p) :
  Calls Tryz.prog 67 #[.pointer (some ⟨p, 0, none⟩), .slice L xs.length lc] w fun e w' => ∃ s, e = .returned (.int .i64 s) ∧ s ∈ xs ∧ Stepped w w' p A c cs (N + 2) := by
  go_enter Tryz.func67, Tryz.ntmps67
  exact zb20
open Go.RowKit Go.G9
theorem vBig_is (A : Option Addr) (c n : Nat) (v : Bool) (hv : decide (65536 < n) = v) (w : World) : Calls Tryz.prog 7 #[.slice A n c] w fun e w' => e = .returned (.bool v) ∧ w' = w := by
 subst hv
 go_in
 go_wp2
 go_ret
 exact ⟨by first | rfl | (congr 2; simp; omega) | (refine ret_bool ?_; simp; omega), rfl⟩
theorem zb128 {p : Prop} (h : p := by
 go_wp2
 go_roundw
 case rel => exact ⟨k + 1, by omega, by go_num, bth hb K.below⟩
 case measure => simp [intOf]; omega) : p := h
theorem vInts_is (A A' : Option Addr) (c c' : Nat) (xs : List Int) (hn : xs.length ≤ 1048576) (w : World) (hR : Rds 1 intC w A xs) (hR' : Rds 1 intC w A' xs) :
 Calls Tryz.prog 30 #[.slice A xs.length c, .slice A' xs.length c'] w fun e w' => e = .returned (.bool true) ∧ Below w.heap.size w w' := by
 go_in
 go_wp2
 go_loopw [5] (fun i wr => ∃ (k : Nat), k ≤ xs.length ∧ i = .int .i64 k ∧ Below w.heap.size w wr) (fun i _ => xs.length - (intOf i).toNat)
 case atStart => exact ⟨0, Nat.zero_le _, rfl, Below.refl _ _⟩
 case round =>
  obtain ⟨k, hk, rfl, hb⟩ := hrel
  by_cases hlt : k < xs.length
  ·obtain ⟨b, off, x, rfl, hbl, hx, hcx⟩ := hR.at_ hb hlt
   obtain ⟨b', off', x', rfl, _, hx', hcx'⟩ := hR'.at_ hb hlt
   obtain rfl : x = x' := Option.some.inj (hx.symm.trans hx')
   have f0 := hcx 0 _ rfl; have e0 := hcx' 0 _ rfl
   simp only [Nat.mul_one, Nat.add_zero] at f0 e0
   clear hx hcx hx' hcx'
   go_wp2
   refine wp_region_kin (by kernel_rfl) (by kernel_rfl) ?_
   repeat (go_big_quiet_step ((fail)))
   refine wpQuiet_nil ?_
   intro K
   exact zb128
  ·go_wp2
   go_ret
   exact ⟨rfl, hb⟩
open Go.RowKit Go.G9
theorem zb70 {p : Prop} (h : p := by
 simp only [Nat.add_zero] at f0 e0
 clear hx hcx hx' hcx'
 go_wp2
 refine wp_region_kin (by kernel_rfl) (by kernel_rfl) ?_
 repeat (go_big_quiet_step ((fail)))
 refine wpQuiet_nil ?_
 intro K
 go_wp2
 go_roundw
 case rel => exact ⟨k + 1, by omega, by go_num, bth hb K.below⟩
 case measure => simp [intOf]; omega) : p := h
theorem vRules_is (A A' : Option Addr) (c c' : Nat) (xs : List Rul) (hn : xs.length ≤ 1048576) (w : World) (hR : Rds 7 Rul.cells w A xs) (hR' : Rds 7 Rul.cells w A' xs) :
 Calls Tryz.prog 49 #[.slice A xs.length c, .slice A' xs.length c'] w fun e w' => e = .returned (.bool true) ∧ Below w.heap.size w w' := by
 go_in
 go_wp2
 go_loopw [5] (fun i wr => ∃ (k : Nat), k ≤ xs.length ∧ i = .int .i64 k ∧ Below w.heap.size w wr) (fun i _ => xs.length - (intOf i).toNat)
 case atStart => exact ⟨0, Nat.zero_le _, rfl, Below.refl _ _⟩
 case round =>
  obtain ⟨k, hk, rfl, hb⟩ := hrel
  by_cases hlt : k < xs.length
  ·skip
   obtain ⟨b, off, x, rfl, hbl, hx, hcx⟩ := hR.at_ hb hlt
   obtain ⟨b', off', x', rfl, _, hx', hcx'⟩ := hR'.at_ hb hlt
   obtain rfl : x = x' := Option.some.inj (hx.symm.trans hx')
   obtain ⟨id, nm, rk, sc, db, am, nd, hok⟩ := x
   have f0 := hcx 0 _ rfl; have f1 := hcx 1 _ rfl; have f2 := hcx 2 _ rfl; have f3 := hcx 3 _ rfl; have f4 := hcx 4 _ rfl; have f5 := hcx 5 _ rfl; have f6 := hcx 6 _ rfl; have e0 := hcx' 0 _ rfl; have e1 := hcx' 1 _ rfl; have e2 := hcx' 2 _ rfl; have e3 := hcx' 3 _ rfl; have e4 := hcx' 4 _ rfl; have e5 := hcx' 5 _ rfl; have e6 := hcx' 6 _ rfl
   exact zb70
  ·go_wp2
   go_ret
   exact ⟨rfl, hb⟩
theorem vQuestions_is (A A' : Option Addr) (c c' : Nat) (xs : List Que) (hn : xs.length ≤ 1048576) (w : World) (hR : Rds 3 Que.cells w A xs) (hR' : Rds 3 Que.cells w A' xs) :
 Calls Tryz.prog 50 #[.slice A xs.length c, .slice A' xs.length c'] w fun e w' => e = .returned (.bool true) ∧ Below w.heap.size w w' := by
 go_in
 go_wp2
 go_loopw [5] (fun i wr => ∃ (k : Nat), k ≤ xs.length ∧ i = .int .i64 k ∧ Below w.heap.size w wr) (fun i _ => xs.length - (intOf i).toNat)
 case atStart => exact ⟨0, Nat.zero_le _, rfl, Below.refl _ _⟩
 case round =>
  obtain ⟨k, hk, rfl, hb⟩ := hrel
  by_cases hlt : k < xs.length
  ·skip
   obtain ⟨b, off, x, rfl, hbl, hx, hcx⟩ := hR.at_ hb hlt
   obtain ⟨b', off', x', rfl, _, hx', hcx'⟩ := hR'.at_ hb hlt
   obtain rfl : x = x' := Option.some.inj (hx.symm.trans hx')
   obtain ⟨id, m, s⟩ := x
   have f0 := hcx 0 _ rfl; have f1 := hcx 1 _ rfl; have f2 := hcx 2 _ rfl; have e0 := hcx' 0 _ rfl; have e1 := hcx' 1 _ rfl; have e2 := hcx' 2 _ rfl
   exact zb70
  ·go_wp2
   go_ret
   exact ⟨rfl, hb⟩
theorem vFloor_is (tu se sp : Int) (A2 D2 : Option Addr) (ws : List Int) (c2 d2 : Nat) (A3 D3 : Option Addr) (c3 d3 : Nat) (sh : List Sha) (h2 : ws.length ≤ 1048576) (h3 : sh.length ≤ 1048576) (w : World) (R2 : Rds 1 intC w A2 ws) (R3 : Rds 3 Sha.cells w A3 sh) (Q2 : Rds 1 intC w D2 ws) (Q3 : Rds 3 Sha.cells w D3 sh) :
 Calls Tryz.prog 51 #[.agg #[.int .i64 tu, .int .i64 se, .int .i64 sp, .slice A2 ws.length c2, .slice A3 sh.length c3], .agg #[.int .i64 tu, .int .i64 se, .int .i64 sp, .slice D2 ws.length d2, .slice D3 sh.length d3]] w fun e w' => e = .returned (.bool true) ∧ Below w.heap.size w w' := by
 go_in
 go_upto_region 1 with fail
 refine lay2 fun wX hq1 hA hB => ?_
 replace R2 := R2.below hq1; replace R3 := R3.below hq1; replace Q2 := Q2.below hq1; replace Q3 := Q3.below hq1; have HB := hq1; have a' := hA.cs5
 obtain ⟨b0, b1, b2, b3, b4⟩ := hB.cs5
 have yhA := hA.lt; have yhB := hB.lt
 go_wp2_with fail
 refine (vInts_is A2 D2 c2 d2 ws h2 _ (R2.below bel) (Q2.below bel)).mono ?_
 rintro e w2 ⟨rfl, hb2⟩
 have hq2 := be wX hb2; replace HB := bth HB hq2; replace R2 := R2.below hq2; replace R3 := R3.below hq2; replace Q2 := Q2.below hq2; replace Q3 := Q3.below hq2; replace hA := hA.to hq2; clear a'; have a' := hA.cs5; replace hB := hB.to hq2; clear b0 b1 b2 b3 b4
 obtain ⟨b0, b1, b2, b3, b4⟩ := hB.cs5
 have yhA := hA.lt; have yhB := hB.lt
 go_wp2
 have HB0 := lh HB; have HA0 := lh hA; have HB1 := lh hB; have HRA := lh R3; have HRD := lh Q3
 obtain ⟨wl, hwl⟩ : ∃ W, W = w2 := ⟨_, rfl⟩
 rw [← hwl] at HB0 HA0 HB1 HRA HRD
 rw [← hwl]
 clear HB hA hB R3 Q3 a' b0 b1 b2 b3 b4
 go_loopw [5] (fun i wr => ∃ (k : Nat), k ≤ sh.length ∧ i = .int .i64 k ∧ Below wl.heap.size wl wr) (fun i _ => sh.length - (intOf i).toNat)
 case atStart => exact ⟨0, Nat.zero_le _, rfl, Below.refl _ _⟩
 case round =>
  obtain ⟨k, hk, rfl, hb⟩ := hrel
  have hA := HA0.out.below hb HA0.out.lt; have hB := HB1.out.below hb HB1.out.lt; have HB := bth HB0.out hb; have hAl := hA.lt; have hBl := hB.lt; have a' := hA.cs5
  obtain ⟨b0, b1, b2, b3, b4⟩ := hB.cs5
  by_cases hlt : k < sh.length
  ·skip
   obtain ⟨b, off, x, rfl, hbl, hx, hcx⟩ := HRA.out.at_ hb hlt
   obtain ⟨b', off', x', rfl, _, hx', hcx'⟩ := HRD.out.at_ hb hlt
   obtain rfl : x = x' := Option.some.inj (hx.symm.trans hx')
   obtain ⟨m, t, s⟩ := x
   have f0 := hcx 0 _ rfl; have f1 := hcx 1 _ rfl; have f2 := hcx 2 _ rfl; have e0 := hcx' 0 _ rfl; have e1 := hcx' 1 _ rfl; have e2 := hcx' 2 _ rfl
   simp only [Nat.add_zero] at f0 e0
   clear hx hcx hx' hcx'
   go_upto_region 6 with fail
   clear a'; have a' := Blk.cs5K (fun K : Kin wr.heap.size wr => (hA.below K.below hA.lt)); clear b0 b1 b2 b3 b4
   obtain ⟨b0, b1, b2, b3, b4⟩ := Blk.cs5K (fun K : Kin wr.heap.size wr => (hB.below K.below hB.lt))
   refine wp_region_kin (by kernel_rfl) (by kernel_rfl) ?_
   repeat (go_big_quiet_step ((fail)))
   refine wpQuiet_nil ?_
   intro K
   clear a'; clear b0 b1 b2 b3 b4; have hq3 : Below wr.heap.size wr K.world := bth bel K.below; replace HB := bth HB hq3; replace hA := hA.to hq3; have a' := hA.cs5; replace hB := hB.to hq3
   obtain ⟨b0, b1, b2, b3, b4⟩ := hB.cs5
   exact zb128
  ·go_wp2
   go_ret
   exact ⟨rfl, HB⟩
theorem vMeeting_is (rs : List Rul) (qs : List Que) (tu se sp : Int) (ws : List Int) (sh : List Sha) (os : List Out) (A0 A1 A2 A3 A4 : Option Addr) (c0 c1 c2 c3 c4 : Nat) (D0 D1 D2 D3 D4 : Option Addr) (d0 d1 d2 d3 d4 : Nat) (h0 : rs.length ≤ 1048576) (h1 : qs.length ≤ 1048576) (h2 : ws.length ≤ 1048576) (h3 : sh.length ≤ 1048576) (h4 : os.length ≤ 1048576) (w : World) (R : MeR w A0 A1 A2 A3 A4 rs qs ws sh os) (Q : MeR w D0 D1 D2 D3 D4 rs qs ws sh os) :
 Calls Tryz.prog 11 #[.agg #[.slice A0 rs.length c0, .slice A1 qs.length c1, .int .i64 tu, .int .i64 se, .int .i64 sp, .slice A2 ws.length c2, .slice A3 sh.length c3, .slice A4 os.length c4], .agg #[.slice D0 rs.length d0, .slice D1 qs.length d1, .int .i64 tu, .int .i64 se, .int .i64 sp, .slice D2 ws.length d2, .slice D3 sh.length d3, .slice D4 os.length d4]] w fun e w' => e = .returned (.bool true) ∧ Below w.heap.size w w' := by
 obtain ⟨R0, R1, R2, R3, R4⟩ := R
 obtain ⟨Q0, Q1, Q2, Q3, Q4⟩ := Q
 go_in
 go_upto_region 1 with fail
 refine lay2 fun wX hq1 hA hB => ?_
 replace R0 := R0.below hq1; replace R1 := R1.below hq1; replace R2 := R2.below hq1; replace R3 := R3.below hq1; replace R4 := R4.below hq1; replace Q0 := Q0.below hq1; replace Q1 := Q1.below hq1; replace Q2 := Q2.below hq1; replace Q3 := Q3.below hq1; replace Q4 := Q4.below hq1; have HB := hq1; have a' := hA.cs8
 obtain ⟨b0, b1, b2, b3, b4, b5, b6, b7⟩ := hB.cs8
 have yhA := hA.lt; have yhB := hB.lt
 go_wp2_with fail
 refine (vRules_is A0 D0 c0 d0 rs h0 _ (R0.below bel) (Q0.below bel)).mono ?_
 rintro e w2 ⟨rfl, hb2⟩
 have hq2 := be wX hb2; replace HB := bth HB hq2; replace R0 := R0.below hq2; replace R1 := R1.below hq2; replace R2 := R2.below hq2; replace R3 := R3.below hq2; replace R4 := R4.below hq2; replace Q0 := Q0.below hq2; replace Q1 := Q1.below hq2; replace Q2 := Q2.below hq2; replace Q3 := Q3.below hq2; replace Q4 := Q4.below hq2; replace hA := hA.to hq2; clear a'; have a' := hA.cs8; replace hB := hB.to hq2
 clear b0 b1 b2 b3 b4 b5 b6 b7
 obtain ⟨b0, b1, b2, b3, b4, b5, b6, b7⟩ := hB.cs8
 have yhA := hA.lt; have yhB := hB.lt
 go_wp2_with fail
 refine (vQuestions_is A1 D1 c1 d1 qs h1 _ (R1.below bel) (Q1.below bel)).mono ?_
 rintro e w3 ⟨rfl, hb3⟩
 have hq3 := be w2 hb3; replace HB := bth HB hq3; replace R0 := R0.below hq3; replace R1 := R1.below hq3; replace R2 := R2.below hq3; replace R3 := R3.below hq3; replace R4 := R4.below hq3; replace Q0 := Q0.below hq3; replace Q1 := Q1.below hq3; replace Q2 := Q2.below hq3; replace Q3 := Q3.below hq3; replace Q4 := Q4.below hq3; replace hA := hA.to hq3; clear a'; have a' := hA.cs8; replace hB := hB.to hq3
 clear b0 b1 b2 b3 b4 b5 b6 b7
 obtain ⟨b0, b1, b2, b3, b4, b5, b6, b7⟩ := hB.cs8
 have yhA := hA.lt; have yhB := hB.lt
 go_wp2_with fail
 refine (vFloor_is tu se sp A2 D2 ws c2 d2 A3 D3 c3 d3 sh h2 h3 _ (R2.below bel) (R3.below bel) (Q2.below bel) (Q3.below bel)).mono ?_
 rintro e w4 ⟨rfl, hb4⟩
 have hq4 := be w3 hb4; replace HB := bth HB hq4; replace R0 := R0.below hq4; replace R1 := R1.below hq4; replace R2 := R2.below hq4; replace R3 := R3.below hq4; replace R4 := R4.below hq4; replace Q0 := Q0.below hq4; replace Q1 := Q1.below hq4; replace Q2 := Q2.below hq4; replace Q3 := Q3.below hq4; replace Q4 := Q4.below hq4; replace hA := hA.to hq4; clear a'; have a' := hA.cs8; replace hB := hB.to hq4
 clear b0 b1 b2 b3 b4 b5 b6 b7
 obtain ⟨b0, b1, b2, b3, b4, b5, b6, b7⟩ := hB.cs8
 have yhA := hA.lt; have yhB := hB.lt; clear R0 R1 R2 R3 Q0 Q1 Q2 Q3
 go_wp2
 have HB0 := lh HB; have HA0 := lh hA; have HB1 := lh hB; have HRA := lh R4; have HRD := lh Q4
 obtain ⟨wl, hwl⟩ : ∃ W, W = w4 := ⟨_, rfl⟩
 rw [← hwl] at HB0 HA0 HB1 HRA HRD
 rw [← hwl]
 clear HB hA hB R4 Q4 a' b0 b1 b2 b3 b4 b5 b6 b7
 go_loopw [5] (fun i wr => ∃ (k : Nat), k ≤ os.length ∧ i = .int .i64 k ∧ Below wl.heap.size wl wr) (fun i _ => os.length - (intOf i).toNat)
 case atStart => exact ⟨0, Nat.zero_le _, rfl, Below.refl _ _⟩
 case round =>
  obtain ⟨k, hk, rfl, hb⟩ := hrel
  have hA := HA0.out.below hb HA0.out.lt; have hB := HB1.out.below hb HB1.out.lt; have HB := bth HB0.out hb; have hAl := hA.lt; have hBl := hB.lt; have a' := hA.cs8
  obtain ⟨b0, b1, b2, b3, b4, b5, b6, b7⟩ := hB.cs8
  by_cases hlt : k < os.length
  ·skip
   obtain ⟨b, off, x, rfl, hbl, hx, hcx⟩ := HRA.out.at_ hb hlt
   obtain ⟨b', off', x', rfl, _, hx', hcx'⟩ := HRD.out.at_ hb hlt
   obtain rfl : x = x' := Option.some.inj (hx.symm.trans hx')
   obtain ⟨r, m, a⟩ := x
   have f0 := hcx 0 _ rfl; have f1 := hcx 1 _ rfl; have f2 := hcx 2 _ rfl; have e0 := hcx' 0 _ rfl; have e1 := hcx' 1 _ rfl; have e2 := hcx' 2 _ rfl
   simp only [Nat.add_zero] at f0 e0
   clear hx hcx hx' hcx'
   go_upto_region 6 with fail
   clear a'; have a' := Blk.cs8K (fun K : Kin wr.heap.size wr => (hA.below K.below hA.lt)); clear b0 b1 b2 b3 b4 b5 b6 b7
   obtain ⟨b0, b1, b2, b3, b4, b5, b6, b7⟩ := Blk.cs8K (fun K : Kin wr.heap.size wr => (hB.below K.below hB.lt))
   refine wp_region_kin (by kernel_rfl) (by kernel_rfl) ?_
   repeat (go_big_quiet_step ((fail)))
   refine wpQuiet_nil ?_
   intro K
   clear a'; clear b0 b1 b2 b3 b4 b5 b6 b7; have hq5 : Below wr.heap.size wr K.world := bth bel K.below; replace HB := bth HB hq5; replace hA := hA.to hq5; have a' := hA.cs8; replace hB := hB.to hq5
   obtain ⟨b0, b1, b2, b3, b4, b5, b6, b7⟩ := hB.cs8
   exact zb128
  ·go_wp2
   go_ret
   exact ⟨rfl, HB⟩

end Go.Proofs.YtjimibkgocieoaaGreat
namespace Go.G9
open Go.RowKit
structure Seg (lo hi : Nat) (w : World) (A : Option Addr) (c : Nat) (xs : List Int) : Prop where
 rds : Rds 1 intC w A xs
 nil : A = none → xs = [] ∧ c = 0
 rng : ∀ ad, A = some ad → 0 < xs.length → lo ≤ ad.block ∧ ad.block < hi
theorem Seg.kept {lo hi : Nat} {w w' : World} {A : Option Addr} {c : Nat} {xs : List Int} (h : Seg lo hi w A c xs) {row : Option Nat} (hg : w.grownBy w' row) (hr : ∀ k, row = some k → k < lo ∨ hi ≤ k) : Seg lo hi w' A c xs := by
 refine ⟨?_, h.nil, h.rng⟩
 by_cases hn : 0 < xs.length
 ·exact h.rds.grown hg (fun ad ha e => by
   have h1 := h.rng ad ha hn
   rcases hr _ e.symm with h2 | h2 <;> omega)
 ·have : xs = [] := List.length_eq_zero_iff.1 (by omega)
  subst this; exact Rds.nil
theorem Seg.of {B : Nat} {e : TypeId} {w : World} {A : Option Addr} {c : Nat} {xs : List Int} (h : OwnV B e 1 intC w (.slice A xs.length c) xs) : Seg B w.heap.size w A c xs :=
 ⟨h.rds, h.nilOk, fun ad ha _ => h.lt ad.block (by rw [ha]; rfl)⟩
theorem grown_row2 {w w1 w2 : World} {p : Nat} {row : Option Nat} (h : w.grownBy w1 (some p)) (k : w1.grownBy w2 row) (hr : ∀ g, row = some g → w.heap.size ≤ g) : w.grownBy w2 (some p) :=
 ⟨k.os.trans h.os, k.tape.trans h.tape, k.output.trans h.output, Nat.le_trans h.size k.size, fun i hi hne =>
  (k.block i (Nat.lt_of_lt_of_le hi h.size) (fun e => by have := hr i e.symm; omega)).trans (h.block i hi hne)⟩
structure Two (B : Nat) (e : TypeId) (w : World) (y n : Value) (ys ns : List Int) : Prop where
 oy : OwnV B e 1 intC w y ys
 on : OwnV B e 1 intC w n ns
 ne : Ne2 y n
section
variable {B : Nat} {e : TypeId} {w w' : World} {y n : Value} {ys ns : List Int}
theorem Two.kept (h : Two B e w y n ys ns) {p : Nat} (hg : w.grownBy w' (some p)) (hp : p < B) : Two B e w' y n ys ns :=
 ⟨h.oy.kept hg (fun k hk e => by have := (h.oy.lt k hk).1; have := Option.some.inj e; omega), h.on.kept hg (fun k hk e => by have := (h.on.lt k hk).1; have := Option.some.inj e; omega), h.ne⟩
theorem Two.alloc (h : Two B e w y n ys ns) (o : Obj) : Two B e (w.alloc o) y n ys ns := ⟨h.oy.alloc o, h.on.alloc o, h.ne⟩
end
end Go.G9
namespace Go.Proofs.YtjimibkgocieoaaGreat
open Go.RowKit Go.G9
theorem Cur.row {w w' : World} {p : Nat} {A : Option Addr} {c : Nat} {cs : List UInt8} {N : Nat} (h : Cur w p A c cs N) {row : Option Nat} (hg : w.grownBy w' row) (hr : ∀ k, row = some k → p < k) : Cur w' p A c cs N := by
 obtain ⟨⟨i, s, hB, h0, h1⟩, hR, hlo⟩ := h
 refine ⟨⟨i, s, (hg.block p hB.lt (fun e => by have := hr p e.symm; omega)).trans hB, h0, h1⟩, ?_, hlo⟩
 by_cases hn : 0 < cs.length
 ·exact hR.grown hg (fun ad ha e => by have h1 := hlo ad ha hn; have h2 := hr _ e.symm; omega)
 ·have : cs = [] := List.length_eq_zero_iff.1 (by omega)
  subst this; exact Rds.nil
end Go.Proofs.YtjimibkgocieoaaGreat
namespace Go.G9
open Go.RowKit
theorem stG {w0 w W : World} {p g k : Nat} {vs : List Value} (h : Sto w g k vs W) (HG : w0.grownBy w (some p)) (hg : w0.heap.size ≤ g := by omega) : w0.grownBy W (some p) := grown_row2 HG h.gr (fun q e => by have := Option.some.inj e; omega)
theorem OwnV.kS {T : Type} {B sz : Nat} {f : T → List Value} {e : TypeId} {w W : World} {v : Value} {xs : List T} {g k : Nat} {vs : List Value} (h : OwnV B e sz f w v xs) (s : Sto w g k vs W) (hne : ∀ q, v.ownBlock = some q → ¬ q = g := by assumption) : OwnV B e sz f W v xs := h.keptS s hne
end Go.G9
namespace Go.Proofs.YtjimibkgocieoaaGreat
open Go.RowKit Go.G9
theorem stC {w W : World} {p g k N : Nat} {A : Option Addr} {c : Nat} {cs : List UInt8} {vs : List Value} (h : Sto w g k vs W) (hC : Cur w p A c cs N) (hg : p < g := by omega) : Cur W p A c cs N := hC.row h.gr (fun q e => by have := Option.some.inj e; omega)
end Go.Proofs.YtjimibkgocieoaaGreat
