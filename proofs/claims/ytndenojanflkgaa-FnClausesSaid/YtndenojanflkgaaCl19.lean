/- The law of clauses: a clause stands exactly if it and all on which it depends are adopted. -/
import Derived.Test.YtndenojanflkgaaCl18
import Derived.Test.YtndenojanflkgaaCl7
import Derived.Deep.RegionWith
namespace Go.Proofs.Ytndenojanflkgaa
open Go.RowKit Go.G9
/-- The test of a closure's first q clauses. -/
def alP (ad : List Bool) (zs : List Int) (q : Nat) : Bool := (zs.take q).all (fun x => atP ad x.toNat)
theorem alP_succ {ad : List Bool} {zs : List Int} {q m : Nat} (h : zs[q]? = some (m : Int)) : alP ad zs (q + 1) = (alP ad zs q && atP ad m) := by
  unfold alP; rw [List.take_add_one, h, List.all_append]; simp
theorem alP_all (ad : List Bool) (zs : List Int) : alP ad zs zs.length = zs.all (fun x => atP ad x.toNat) := by unfold alP; rw [List.take_length]
/-- What the law asks of one clause. -/
structure ClFact (xs : List Cla) (ad : List Bool) (i : Nat) (zs st fa : List Int) : Prop where
  cl : clO xs [(i : Int)] = zs
  one : cloB xs [(i : Int)] = true
  len : zs.length ≤ 1000
  all : alP ad zs zs.length = stB (ndF xs) (atP ad) i
  hs : hasB st (i : Int) = stB (ndF xs) (atP ad) i
  hf : hasB fa (i : Int) = (atP ad i && !stB (ndF xs) (atP ad) i)
  mem : ∀ x, x ∈ zs → ∃ k : Nat, x = k ∧ k < xs.length ∧ (k = i ∨ hasB (chN (fun j => dpA (ndF xs) j k) xs.length) (i : Int) = true)
theorem clFact {xs : List Cla} {ad : List Bool} (hv : voteB xs ad = true) {i : Nat} (hi : i < xs.length) (hn : xs.length ≤ 1000) : ClFact xs ad i (clO xs [(i : Int)]) (stO xs ad) (faO xs ad) := by
  have hg : claB xs = true := by simp only [voteB, Bool.and_eq_true] at hv; exact hv.1
  have hB := claB_bk hg
  have hc : cloB xs [(i : Int)] = true := by
    rw [cloB, hg, Bool.true_and]
    have : inB (i : Int) 0 ((xs.length : Int) - 1) = true := inB_iff.2 ⟨by omega, by omega⟩
    simp [ascB, allTo, ascStep, List.range_succ, this]
  refine ⟨rfl, hc, ?_, ?_, ?_, ?_, ?_⟩
  · rw [clO_yes hc]; have := chN_len (clF (ndF xs) [(i : Int)]) xs.length; omega
  · rw [alP_all, clO_yes hc]; exact stands hB hi
  · rw [stO_yes hv]; exact chN_has _ _ _ hi
  · rw [faO_yes hv]; exact chN_has _ _ _ hi
  · intro x hx
    rw [clO_yes hc] at hx
    obtain ⟨k, rfl, hk, _⟩ := (chN_mem _ _ x).1 hx
    exact ⟨k, rfl, hk, (needs_dep hB hi hx).2⟩
theorem bnn (b : Bool) : (!(b == b)) = false := by cases b <;> rfl
theorem bee (b : Bool) : (b == b) = true := by cases b <;> rfl
theorem dvO_len (xs : List Cla) (ad : List Bool) : (dvO xs ad).length ≤ 1000 := by
  unfold dvO; split
  · rename_i h
    simp only [dvB, voteB, Bool.and_eq_true] at h
    have h8 := claB_len h.1.1
    have h1 := wcN_len h.1.1 (chN (stB (ndF xs) (atP ad)) xs.length) (chN (stB (ndF xs) (atP ad)) xs.length).length
    have h2 := chN_len (stB (ndF xs) (atP ad)) xs.length
    unfold dvL; omega
  · simp
theorem clO_len (xs : List Cla) (ds : List Int) : (clO xs ds).length ≤ 1000 := by
  unfold clO; split
  · rename_i h
    simp only [cloB, Bool.and_eq_true] at h
    have h8 := claB_len h.1
    have h2 := chN_len (clF (ndF xs) ds) xs.length
    omega
  · simp
set_option maxHeartbeats 8000000 in
set_option maxRecDepth 100000 in
theorem law_clauses (A : Option Addr) (c : Nat) (cs : List UInt8) (w : World) (hR : Rds 1 u8C w A cs) :
  Calls Try.prog 3 #[.slice A cs.length c] w fun e w' => e = .returned (.bool true) ∧ Below w.heap.size w w' := by
  by_cases hbig : 65536 < cs.length
  · go_enter Try.func3, Try.ntmps3
    go_wp2_with fail
    refine (vBig_is A c cs.length _ (decide_eq_true hbig) _).mono ?_
    rintro e w0 ⟨rfl, h0⟩
    rw [h0]
    clear h0 w0
    go_wp2
    go_ret
    exact ⟨rfl, Below.refl _ _⟩
  have hcs : cs.length ≤ 1048576 := by omega
  have HBG := Lib.hid (decide_eq_false hbig)
  have HR := Lib.hid hR
  clear hR hbig
  go_enter Try.func3, Try.ntmps3
  go_wp2_with fail
  refine (vBig_is A c cs.length _ HBG.out _).mono ?_
  rintro e w0 ⟨rfl, h0⟩
  rw [h0]
  clear h0 w0
  go_wp2_with fail
  refine (drawStandingC_is A c cs hcs _ HR.out).mono ?_
  rintro e w1 ⟨xs, Y, y, ad, D, d, rfl, hxl, hal, hX, hD, hb1⟩
  have hq1 : Below w.heap.size w w1 := bth (by repeat (first | exact Below.refl _ _ | refine Below.alloc ?_ (by first | exact Nat.le_refl _ | (simp <;> omega)) _ | refine Below.setCell ?_ (by first | exact Nat.le_refl _ | (simp <;> omega)) _)) hb1
  have HB : Below w.heap.size w w1 := hq1
  have hn : xs.length ≤ 1000 := by omega
  have hla : ad.length ≤ 1000 := by omega
  have HFA := Lib.hid (fun (h : voteB xs ad = true) i (hi : i < xs.length) => clFact h hi hn)
  have hstl : (stO xs ad).length ≤ 1048576 := by
    unfold stO; split
    · have := chN_len (stB (ndF xs) (atP ad)) xs.length; omega
    · simp
  have hfal : (faO xs ad).length ≤ 1048576 := by
    unfold faO; split
    · have := chN_len (faP xs ad) xs.length; omega
    · simp
  have HIS := Lib.hid (fun W h h' => iStanding_is Y y xs D d ad hla W h h')
  have HSS := Lib.hid (fun W h h' => sStanding_is Y y xs D d ad hla W h h')
  have HIF := Lib.hid (fun W h h' => iFallen_is Y y xs D d ad hla W h h')
  have HSF := Lib.hid (fun W h h' => sFallen_is Y y xs D d ad hla W h h')
  have HGV : Hid (voteB xs ad = true → claB xs = true ∧ ad.length = xs.length) := Lib.hid (fun hv => by
    simp only [voteB, Bool.and_eq_true] at hv
    have := hv.2; simp at this
    exact ⟨hv.1, by omega⟩)
  have HAC := Lib.hid (fun W h => areClauses_is Y y xs _ rfl W h)
  have HSC := Lib.hid (fun W h => sAreClauses_is Y y xs _ rfl W h)
  obtain ⟨g, hg⟩ : ∃ g, claB xs = g := ⟨_, rfl⟩
  rw [hg] at HAC HSC
  clear hg
  generalize hvv : voteB xs ad = vb at *
  have HVV := Lib.hid hvv
  clear hvv
  generalize hst : stO xs ad = st at *
  generalize hfa : faO xs ad = fa at *
  clear hst hfa
  have hbb := bnn vb
  have hgg := bnn g
  go_wp2_with fail
  refine (HIS.out _ (hX.below (by repeat (first | exact Below.refl _ _ | refine Below.alloc ?_ (by first | exact Nat.le_refl _ | (simp <;> omega)) _ | refine Below.setCell ?_ (by first | exact Nat.le_refl _ | (simp <;> omega)) _))) (hD.below (by repeat (first | exact Below.refl _ _ | refine Below.alloc ?_ (by first | exact Nat.le_refl _ | (simp <;> omega)) _ | refine Below.setCell ?_ (by first | exact Nat.le_refl _ | (simp <;> omega)) _)))).mono ?_
  rintro e w2 ⟨S1, s1, rfl, OS1, hb2⟩
  have hq2 : Below w1.heap.size w1 w2 := bth (by repeat (first | exact Below.refl _ _ | refine Below.alloc ?_ (by first | exact Nat.le_refl _ | (simp <;> omega)) _ | refine Below.setCell ?_ (by first | exact Nat.le_refl _ | (simp <;> omega)) _)) hb2
  replace HB := bth HB hq2
  replace hX := hX.below hq2
  replace hD := hD.below hq2
  have RS := OS1.rds (hf := intC_len)
  clear OS1
  go_wp2_with fail
  refine (HSS.out _ (hX.below (by repeat (first | exact Below.refl _ _ | refine Below.alloc ?_ (by first | exact Nat.le_refl _ | (simp <;> omega)) _ | refine Below.setCell ?_ (by first | exact Nat.le_refl _ | (simp <;> omega)) _))) (hD.below (by repeat (first | exact Below.refl _ _ | refine Below.alloc ?_ (by first | exact Nat.le_refl _ | (simp <;> omega)) _ | refine Below.setCell ?_ (by first | exact Nat.le_refl _ | (simp <;> omega)) _)))).mono ?_
  rintro e w3 ⟨S2, s2, rfl, OS2, hb3⟩
  have hq3 : Below w2.heap.size w2 w3 := bth (by repeat (first | exact Below.refl _ _ | refine Below.alloc ?_ (by first | exact Nat.le_refl _ | (simp <;> omega)) _ | refine Below.setCell ?_ (by first | exact Nat.le_refl _ | (simp <;> omega)) _)) hb3
  replace HB := bth HB hq3
  replace hX := hX.below hq3
  replace hD := hD.below hq3
  replace RS := RS.below hq3
  have RS2 := OS2.rds (hf := intC_len)
  clear OS2
  go_wp2_with fail
  refine (vInts_is S1 S2 s1 s2 st hstl _ (RS.below (by repeat (first | exact Below.refl _ _ | refine Below.alloc ?_ (by first | exact Nat.le_refl _ | (simp <;> omega)) _ | refine Below.setCell ?_ (by first | exact Nat.le_refl _ | (simp <;> omega)) _))) (RS2.below (by repeat (first | exact Below.refl _ _ | refine Below.alloc ?_ (by first | exact Nat.le_refl _ | (simp <;> omega)) _ | refine Below.setCell ?_ (by first | exact Nat.le_refl _ | (simp <;> omega)) _)))).mono ?_
  rintro e w4 ⟨rfl, hb4⟩
  have hq4 : Below w3.heap.size w3 w4 := bth (by repeat (first | exact Below.refl _ _ | refine Below.alloc ?_ (by first | exact Nat.le_refl _ | (simp <;> omega)) _ | refine Below.setCell ?_ (by first | exact Nat.le_refl _ | (simp <;> omega)) _)) hb4
  replace HB := bth HB hq4
  replace hX := hX.below hq4
  replace hD := hD.below hq4
  replace RS := RS.below hq4
  replace RS2 := RS2.below hq4
  go_wp2_with fail
  refine (HAC.out _ (hX.below (by repeat (first | exact Below.refl _ _ | refine Below.alloc ?_ (by first | exact Nat.le_refl _ | (simp <;> omega)) _ | refine Below.setCell ?_ (by first | exact Nat.le_refl _ | (simp <;> omega)) _)))).mono ?_
  rintro e w5 ⟨rfl, hb5⟩
  have hq5 : Below w4.heap.size w4 w5 := bth (by repeat (first | exact Below.refl _ _ | refine Below.alloc ?_ (by first | exact Nat.le_refl _ | (simp <;> omega)) _ | refine Below.setCell ?_ (by first | exact Nat.le_refl _ | (simp <;> omega)) _)) hb5
  replace HB := bth HB hq5
  replace hX := hX.below hq5
  replace hD := hD.below hq5
  replace RS := RS.below hq5
  replace RS2 := RS2.below hq5
  go_wp2_with fail
  refine (HSC.out _ (hX.below (by repeat (first | exact Below.refl _ _ | refine Below.alloc ?_ (by first | exact Nat.le_refl _ | (simp <;> omega)) _ | refine Below.setCell ?_ (by first | exact Nat.le_refl _ | (simp <;> omega)) _)))).mono ?_
  rintro e w6 ⟨rfl, hb6⟩
  have hq6 : Below w5.heap.size w5 w6 := bth (by repeat (first | exact Below.refl _ _ | refine Below.alloc ?_ (by first | exact Nat.le_refl _ | (simp <;> omega)) _ | refine Below.setCell ?_ (by first | exact Nat.le_refl _ | (simp <;> omega)) _)) hb6
  replace HB := bth HB hq6
  replace hX := hX.below hq6
  replace hD := hD.below hq6
  replace RS := RS.below hq6
  replace RS2 := RS2.below hq6
  go_wp2_with fail
  refine (HIF.out _ (hX.below (by repeat (first | exact Below.refl _ _ | refine Below.alloc ?_ (by first | exact Nat.le_refl _ | (simp <;> omega)) _ | refine Below.setCell ?_ (by first | exact Nat.le_refl _ | (simp <;> omega)) _))) (hD.below (by repeat (first | exact Below.refl _ _ | refine Below.alloc ?_ (by first | exact Nat.le_refl _ | (simp <;> omega)) _ | refine Below.setCell ?_ (by first | exact Nat.le_refl _ | (simp <;> omega)) _)))).mono ?_
  rintro e w7 ⟨F1, f1, rfl, OF1, hb7⟩
  have hq7 : Below w6.heap.size w6 w7 := bth (by repeat (first | exact Below.refl _ _ | refine Below.alloc ?_ (by first | exact Nat.le_refl _ | (simp <;> omega)) _ | refine Below.setCell ?_ (by first | exact Nat.le_refl _ | (simp <;> omega)) _)) hb7
  replace HB := bth HB hq7
  replace hX := hX.below hq7
  replace hD := hD.below hq7
  replace RS := RS.below hq7
  replace RS2 := RS2.below hq7
  have RF := OF1.rds (hf := intC_len)
  clear OF1
  go_wp2_with fail
  refine (HSF.out _ (hX.below (by repeat (first | exact Below.refl _ _ | refine Below.alloc ?_ (by first | exact Nat.le_refl _ | (simp <;> omega)) _ | refine Below.setCell ?_ (by first | exact Nat.le_refl _ | (simp <;> omega)) _))) (hD.below (by repeat (first | exact Below.refl _ _ | refine Below.alloc ?_ (by first | exact Nat.le_refl _ | (simp <;> omega)) _ | refine Below.setCell ?_ (by first | exact Nat.le_refl _ | (simp <;> omega)) _)))).mono ?_
  rintro e w8 ⟨F2, f2, rfl, OF2, hb8⟩
  have hq8 : Below w7.heap.size w7 w8 := bth (by repeat (first | exact Below.refl _ _ | refine Below.alloc ?_ (by first | exact Nat.le_refl _ | (simp <;> omega)) _ | refine Below.setCell ?_ (by first | exact Nat.le_refl _ | (simp <;> omega)) _)) hb8
  replace HB := bth HB hq8
  replace hX := hX.below hq8
  replace hD := hD.below hq8
  replace RS := RS.below hq8
  replace RS2 := RS2.below hq8
  replace RF := RF.below hq8
  have RF2 := OF2.rds (hf := intC_len)
  clear OF2
  go_wp2_with fail
  refine (vInts_is F1 F2 f1 f2 fa hfal _ (RF.below (by repeat (first | exact Below.refl _ _ | refine Below.alloc ?_ (by first | exact Nat.le_refl _ | (simp <;> omega)) _ | refine Below.setCell ?_ (by first | exact Nat.le_refl _ | (simp <;> omega)) _))) (RF2.below (by repeat (first | exact Below.refl _ _ | refine Below.alloc ?_ (by first | exact Nat.le_refl _ | (simp <;> omega)) _ | refine Below.setCell ?_ (by first | exact Nat.le_refl _ | (simp <;> omega)) _)))).mono ?_
  rintro e w9 ⟨rfl, hb9⟩
  have hq9 : Below w8.heap.size w8 w9 := bth (by repeat (first | exact Below.refl _ _ | refine Below.alloc ?_ (by first | exact Nat.le_refl _ | (simp <;> omega)) _ | refine Below.setCell ?_ (by first | exact Nat.le_refl _ | (simp <;> omega)) _)) hb9
  replace HB := bth HB hq9
  replace hX := hX.below hq9
  replace hD := hD.below hq9
  replace RS := RS.below hq9
  replace RS2 := RS2.below hq9
  replace RF := RF.below hq9
  replace RF2 := RF2.below hq9
  clear HIS HSS HIF HSF HAC HSC RS2 RF2 hgg
  have HX := Lib.hid hX; have HD := Lib.hid hD; have HRS := Lib.hid RS; have HRF := Lib.hid RF; have HBL := Lib.hid HB
  clear hX hD RS RF HB
  generalize hwL : w9 = wL at *
  clear hwL
  cases vb
  case false =>
    go_wp2
    go_loop [13] (fun v => v = .int .i64 0) (fun _ => 0)
    case atStart => rfl
    case round =>
      obtain rfl := hrel
      have HB := HBL.out
      by_cases h0 : 0 < xs.length
      · go_wp2_with fail
        refine (drawDividedC_is A c cs hcs _ (HR.out.below HB)).mono ?_
        rintro e w10 ⟨xs2, Y2, y2, ad2, D2, d2, rfl, hxl2, hal2, hX2, hD2, hb10⟩
        have hq10 : Below wL.heap.size wL w10 := bth (by repeat (first | exact Below.refl _ _ | refine Below.alloc ?_ (by first | exact Nat.le_refl _ | (simp <;> omega)) _ | refine Below.setCell ?_ (by first | exact Nat.le_refl _ | (simp <;> omega)) _)) hb10
        replace HB := bth HB hq10
        go_wp2_with fail
        refine (iDivided_is Y2 y2 xs2 D2 d2 ad2 (by omega) _ (hX2.below (by repeat (first | exact Below.refl _ _ | refine Below.alloc ?_ (by first | exact Nat.le_refl _ | (simp <;> omega)) _ | refine Below.setCell ?_ (by first | exact Nat.le_refl _ | (simp <;> omega)) _))) (hD2.below (by repeat (first | exact Below.refl _ _ | refine Below.alloc ?_ (by first | exact Nat.le_refl _ | (simp <;> omega)) _ | refine Below.setCell ?_ (by first | exact Nat.le_refl _ | (simp <;> omega)) _)))).mono ?_
        rintro e w11 ⟨T1, t1, rfl, OT1, hb11⟩
        have hq11 : Below w10.heap.size w10 w11 := bth (by repeat (first | exact Below.refl _ _ | refine Below.alloc ?_ (by first | exact Nat.le_refl _ | (simp <;> omega)) _ | refine Below.setCell ?_ (by first | exact Nat.le_refl _ | (simp <;> omega)) _)) hb11
        replace HB := bth HB hq11
        replace hX2 := hX2.below hq11
        replace hD2 := hD2.below hq11
        have RT1 := OT1.rds (hf := bC_len)
        clear OT1
        go_wp2_with fail
        refine (sDivided_is Y2 y2 xs2 D2 d2 ad2 (by omega) _ (hX2.below (by repeat (first | exact Below.refl _ _ | refine Below.alloc ?_ (by first | exact Nat.le_refl _ | (simp <;> omega)) _ | refine Below.setCell ?_ (by first | exact Nat.le_refl _ | (simp <;> omega)) _))) (hD2.below (by repeat (first | exact Below.refl _ _ | refine Below.alloc ?_ (by first | exact Nat.le_refl _ | (simp <;> omega)) _ | refine Below.setCell ?_ (by first | exact Nat.le_refl _ | (simp <;> omega)) _)))).mono ?_
        rintro e w12 ⟨T2, t2, rfl, OT2, hb12⟩
        have hq12 : Below w11.heap.size w11 w12 := bth (by repeat (first | exact Below.refl _ _ | refine Below.alloc ?_ (by first | exact Nat.le_refl _ | (simp <;> omega)) _ | refine Below.setCell ?_ (by first | exact Nat.le_refl _ | (simp <;> omega)) _)) hb12
        replace HB := bth HB hq12
        replace hX2 := hX2.below hq12
        replace hD2 := hD2.below hq12
        replace RT1 := RT1.below hq12
        have RT2 := OT2.rds (hf := bC_len)
        clear OT2
        have htl := dvO_len xs2 ad2
        have hbv := bnn (dvB xs2 ad2)
        generalize dvO xs2 ad2 = tl at *
        generalize dvB xs2 ad2 = tb at *
        go_wp2_with fail
        refine (vTexts_is T1 T2 t1 t2 tl (by omega) _ (RT1.below (by repeat (first | exact Below.refl _ _ | refine Below.alloc ?_ (by first | exact Nat.le_refl _ | (simp <;> omega)) _ | refine Below.setCell ?_ (by first | exact Nat.le_refl _ | (simp <;> omega)) _))) (RT2.below (by repeat (first | exact Below.refl _ _ | refine Below.alloc ?_ (by first | exact Nat.le_refl _ | (simp <;> omega)) _ | refine Below.setCell ?_ (by first | exact Nat.le_refl _ | (simp <;> omega)) _)))).mono ?_
        rintro e w13 ⟨rfl, hb13⟩
        have hq13 : Below w12.heap.size w12 w13 := bth (by repeat (first | exact Below.refl _ _ | refine Below.alloc ?_ (by first | exact Nat.le_refl _ | (simp <;> omega)) _ | refine Below.setCell ?_ (by first | exact Nat.le_refl _ | (simp <;> omega)) _)) hb13
        replace HB := bth HB hq13
        replace hX2 := hX2.below hq13
        replace hD2 := hD2.below hq13
        replace RT1 := RT1.below hq13
        replace RT2 := RT2.below hq13
        clear hbv
        go_wp2_with fail
        refine (drawClosureC_is A c cs hcs _ (HR.out.below HB)).mono ?_
        rintro e w14 ⟨xs3, Y3, y3, ds3, D3, d3, rfl, hxl3, hdl3, hX3, hD3, hN3, hb14⟩
        have hq14 : Below w13.heap.size w13 w14 := bth (by repeat (first | exact Below.refl _ _ | refine Below.alloc ?_ (by first | exact Nat.le_refl _ | (simp <;> omega)) _ | refine Below.setCell ?_ (by first | exact Nat.le_refl _ | (simp <;> omega)) _)) hb14
        replace HB := bth HB hq14
        replace hX2 := hX2.below hq14
        replace hD2 := hD2.below hq14
        replace RT1 := RT1.below hq14
        replace RT2 := RT2.below hq14
        have HN3 := Lib.hid hN3; clear hN3
        go_wp2_with fail
        refine (iClosure_is Y3 y3 xs3 D3 d3 ds3 (by omega) _ (hX3.below (by repeat (first | exact Below.refl _ _ | refine Below.alloc ?_ (by first | exact Nat.le_refl _ | (simp <;> omega)) _ | refine Below.setCell ?_ (by first | exact Nat.le_refl _ | (simp <;> omega)) _))) (hD3.below (by repeat (first | exact Below.refl _ _ | refine Below.alloc ?_ (by first | exact Nat.le_refl _ | (simp <;> omega)) _ | refine Below.setCell ?_ (by first | exact Nat.le_refl _ | (simp <;> omega)) _)))).mono ?_
        rintro e w15 ⟨U1, u1, rfl, OU1, hb15⟩
        have hq15 : Below w14.heap.size w14 w15 := bth (by repeat (first | exact Below.refl _ _ | refine Below.alloc ?_ (by first | exact Nat.le_refl _ | (simp <;> omega)) _ | refine Below.setCell ?_ (by first | exact Nat.le_refl _ | (simp <;> omega)) _)) hb15
        replace HB := bth HB hq15
        replace hX2 := hX2.below hq15
        replace hD2 := hD2.below hq15
        replace RT1 := RT1.below hq15
        replace RT2 := RT2.below hq15
        replace hX3 := hX3.below hq15
        replace hD3 := hD3.below hq15
        have RU1 := OU1.rds (hf := intC_len)
        clear OU1
        go_wp2_with fail
        refine (sClosure_is Y3 y3 xs3 D3 d3 ds3 (by omega) HN3.out _ (hX3.below (by repeat (first | exact Below.refl _ _ | refine Below.alloc ?_ (by first | exact Nat.le_refl _ | (simp <;> omega)) _ | refine Below.setCell ?_ (by first | exact Nat.le_refl _ | (simp <;> omega)) _))) (hD3.below (by repeat (first | exact Below.refl _ _ | refine Below.alloc ?_ (by first | exact Nat.le_refl _ | (simp <;> omega)) _ | refine Below.setCell ?_ (by first | exact Nat.le_refl _ | (simp <;> omega)) _)))).mono ?_
        rintro e w16 ⟨U2, u2, rfl, OU2, hb16⟩
        have hq16 : Below w15.heap.size w15 w16 := bth (by repeat (first | exact Below.refl _ _ | refine Below.alloc ?_ (by first | exact Nat.le_refl _ | (simp <;> omega)) _ | refine Below.setCell ?_ (by first | exact Nat.le_refl _ | (simp <;> omega)) _)) hb16
        replace HB := bth HB hq16
        replace hX2 := hX2.below hq16
        replace hD2 := hD2.below hq16
        replace RT1 := RT1.below hq16
        replace RT2 := RT2.below hq16
        replace hX3 := hX3.below hq16
        replace hD3 := hD3.below hq16
        replace RU1 := RU1.below hq16
        have RU2 := OU2.rds (hf := intC_len)
        clear OU2
        have hul := clO_len xs3 ds3
        have hbu := bee (cloB xs3 ds3)
        generalize clO xs3 ds3 = ul at *
        generalize cloB xs3 ds3 = ub at *
        go_wp2_with fail
        refine (vInts_is U1 U2 u1 u2 ul (by omega) _ (RU1.below (by repeat (first | exact Below.refl _ _ | refine Below.alloc ?_ (by first | exact Nat.le_refl _ | (simp <;> omega)) _ | refine Below.setCell ?_ (by first | exact Nat.le_refl _ | (simp <;> omega)) _))) (RU2.below (by repeat (first | exact Below.refl _ _ | refine Below.alloc ?_ (by first | exact Nat.le_refl _ | (simp <;> omega)) _ | refine Below.setCell ?_ (by first | exact Nat.le_refl _ | (simp <;> omega)) _)))).mono ?_
        rintro e w17 ⟨rfl, hb17⟩
        have hq17 : Below w16.heap.size w16 w17 := bth (by repeat (first | exact Below.refl _ _ | refine Below.alloc ?_ (by first | exact Nat.le_refl _ | (simp <;> omega)) _ | refine Below.setCell ?_ (by first | exact Nat.le_refl _ | (simp <;> omega)) _)) hb17
        replace HB := bth HB hq17
        replace hX2 := hX2.below hq17
        replace hD2 := hD2.below hq17
        replace RT1 := RT1.below hq17
        replace RT2 := RT2.below hq17
        replace hX3 := hX3.below hq17
        replace hD3 := hD3.below hq17
        replace RU1 := RU1.below hq17
        replace RU2 := RU2.below hq17
        go_wp2
        go_ret
        exact ⟨rfl, HB⟩
      · have h0' : xs.length = 0 := by omega
        go_wp2_with fail
        refine (drawDividedC_is A c cs hcs _ (HR.out.below HB)).mono ?_
        rintro e w10 ⟨xs2, Y2, y2, ad2, D2, d2, rfl, hxl2, hal2, hX2, hD2, hb10⟩
        have hq10 : Below wL.heap.size wL w10 := bth (by repeat (first | exact Below.refl _ _ | refine Below.alloc ?_ (by first | exact Nat.le_refl _ | (simp <;> omega)) _ | refine Below.setCell ?_ (by first | exact Nat.le_refl _ | (simp <;> omega)) _)) hb10
        replace HB := bth HB hq10
        go_wp2_with fail
        refine (iDivided_is Y2 y2 xs2 D2 d2 ad2 (by omega) _ (hX2.below (by repeat (first | exact Below.refl _ _ | refine Below.alloc ?_ (by first | exact Nat.le_refl _ | (simp <;> omega)) _ | refine Below.setCell ?_ (by first | exact Nat.le_refl _ | (simp <;> omega)) _))) (hD2.below (by repeat (first | exact Below.refl _ _ | refine Below.alloc ?_ (by first | exact Nat.le_refl _ | (simp <;> omega)) _ | refine Below.setCell ?_ (by first | exact Nat.le_refl _ | (simp <;> omega)) _)))).mono ?_
        rintro e w11 ⟨T1, t1, rfl, OT1, hb11⟩
        have hq11 : Below w10.heap.size w10 w11 := bth (by repeat (first | exact Below.refl _ _ | refine Below.alloc ?_ (by first | exact Nat.le_refl _ | (simp <;> omega)) _ | refine Below.setCell ?_ (by first | exact Nat.le_refl _ | (simp <;> omega)) _)) hb11
        replace HB := bth HB hq11
        replace hX2 := hX2.below hq11
        replace hD2 := hD2.below hq11
        have RT1 := OT1.rds (hf := bC_len)
        clear OT1
        go_wp2_with fail
        refine (sDivided_is Y2 y2 xs2 D2 d2 ad2 (by omega) _ (hX2.below (by repeat (first | exact Below.refl _ _ | refine Below.alloc ?_ (by first | exact Nat.le_refl _ | (simp <;> omega)) _ | refine Below.setCell ?_ (by first | exact Nat.le_refl _ | (simp <;> omega)) _))) (hD2.below (by repeat (first | exact Below.refl _ _ | refine Below.alloc ?_ (by first | exact Nat.le_refl _ | (simp <;> omega)) _ | refine Below.setCell ?_ (by first | exact Nat.le_refl _ | (simp <;> omega)) _)))).mono ?_
        rintro e w12 ⟨T2, t2, rfl, OT2, hb12⟩
        have hq12 : Below w11.heap.size w11 w12 := bth (by repeat (first | exact Below.refl _ _ | refine Below.alloc ?_ (by first | exact Nat.le_refl _ | (simp <;> omega)) _ | refine Below.setCell ?_ (by first | exact Nat.le_refl _ | (simp <;> omega)) _)) hb12
        replace HB := bth HB hq12
        replace hX2 := hX2.below hq12
        replace hD2 := hD2.below hq12
        replace RT1 := RT1.below hq12
        have RT2 := OT2.rds (hf := bC_len)
        clear OT2
        have htl := dvO_len xs2 ad2
        have hbv := bnn (dvB xs2 ad2)
        generalize dvO xs2 ad2 = tl at *
        generalize dvB xs2 ad2 = tb at *
        go_wp2_with fail
        refine (vTexts_is T1 T2 t1 t2 tl (by omega) _ (RT1.below (by repeat (first | exact Below.refl _ _ | refine Below.alloc ?_ (by first | exact Nat.le_refl _ | (simp <;> omega)) _ | refine Below.setCell ?_ (by first | exact Nat.le_refl _ | (simp <;> omega)) _))) (RT2.below (by repeat (first | exact Below.refl _ _ | refine Below.alloc ?_ (by first | exact Nat.le_refl _ | (simp <;> omega)) _ | refine Below.setCell ?_ (by first | exact Nat.le_refl _ | (simp <;> omega)) _)))).mono ?_
        rintro e w13 ⟨rfl, hb13⟩
        have hq13 : Below w12.heap.size w12 w13 := bth (by repeat (first | exact Below.refl _ _ | refine Below.alloc ?_ (by first | exact Nat.le_refl _ | (simp <;> omega)) _ | refine Below.setCell ?_ (by first | exact Nat.le_refl _ | (simp <;> omega)) _)) hb13
        replace HB := bth HB hq13
        replace hX2 := hX2.below hq13
        replace hD2 := hD2.below hq13
        replace RT1 := RT1.below hq13
        replace RT2 := RT2.below hq13
        clear hbv
        go_wp2_with fail
        refine (drawClosureC_is A c cs hcs _ (HR.out.below HB)).mono ?_
        rintro e w14 ⟨xs3, Y3, y3, ds3, D3, d3, rfl, hxl3, hdl3, hX3, hD3, hN3, hb14⟩
        have hq14 : Below w13.heap.size w13 w14 := bth (by repeat (first | exact Below.refl _ _ | refine Below.alloc ?_ (by first | exact Nat.le_refl _ | (simp <;> omega)) _ | refine Below.setCell ?_ (by first | exact Nat.le_refl _ | (simp <;> omega)) _)) hb14
        replace HB := bth HB hq14
        replace hX2 := hX2.below hq14
        replace hD2 := hD2.below hq14
        replace RT1 := RT1.below hq14
        replace RT2 := RT2.below hq14
        have HN3 := Lib.hid hN3; clear hN3
        go_wp2_with fail
        refine (iClosure_is Y3 y3 xs3 D3 d3 ds3 (by omega) _ (hX3.below (by repeat (first | exact Below.refl _ _ | refine Below.alloc ?_ (by first | exact Nat.le_refl _ | (simp <;> omega)) _ | refine Below.setCell ?_ (by first | exact Nat.le_refl _ | (simp <;> omega)) _))) (hD3.below (by repeat (first | exact Below.refl _ _ | refine Below.alloc ?_ (by first | exact Nat.le_refl _ | (simp <;> omega)) _ | refine Below.setCell ?_ (by first | exact Nat.le_refl _ | (simp <;> omega)) _)))).mono ?_
        rintro e w15 ⟨U1, u1, rfl, OU1, hb15⟩
        have hq15 : Below w14.heap.size w14 w15 := bth (by repeat (first | exact Below.refl _ _ | refine Below.alloc ?_ (by first | exact Nat.le_refl _ | (simp <;> omega)) _ | refine Below.setCell ?_ (by first | exact Nat.le_refl _ | (simp <;> omega)) _)) hb15
        replace HB := bth HB hq15
        replace hX2 := hX2.below hq15
        replace hD2 := hD2.below hq15
        replace RT1 := RT1.below hq15
        replace RT2 := RT2.below hq15
        replace hX3 := hX3.below hq15
        replace hD3 := hD3.below hq15
        have RU1 := OU1.rds (hf := intC_len)
        clear OU1
        go_wp2_with fail
        refine (sClosure_is Y3 y3 xs3 D3 d3 ds3 (by omega) HN3.out _ (hX3.below (by repeat (first | exact Below.refl _ _ | refine Below.alloc ?_ (by first | exact Nat.le_refl _ | (simp <;> omega)) _ | refine Below.setCell ?_ (by first | exact Nat.le_refl _ | (simp <;> omega)) _))) (hD3.below (by repeat (first | exact Below.refl _ _ | refine Below.alloc ?_ (by first | exact Nat.le_refl _ | (simp <;> omega)) _ | refine Below.setCell ?_ (by first | exact Nat.le_refl _ | (simp <;> omega)) _)))).mono ?_
        rintro e w16 ⟨U2, u2, rfl, OU2, hb16⟩
        have hq16 : Below w15.heap.size w15 w16 := bth (by repeat (first | exact Below.refl _ _ | refine Below.alloc ?_ (by first | exact Nat.le_refl _ | (simp <;> omega)) _ | refine Below.setCell ?_ (by first | exact Nat.le_refl _ | (simp <;> omega)) _)) hb16
        replace HB := bth HB hq16
        replace hX2 := hX2.below hq16
        replace hD2 := hD2.below hq16
        replace RT1 := RT1.below hq16
        replace RT2 := RT2.below hq16
        replace hX3 := hX3.below hq16
        replace hD3 := hD3.below hq16
        replace RU1 := RU1.below hq16
        have RU2 := OU2.rds (hf := intC_len)
        clear OU2
        have hul := clO_len xs3 ds3
        have hbu := bee (cloB xs3 ds3)
        generalize clO xs3 ds3 = ul at *
        generalize cloB xs3 ds3 = ub at *
        go_wp2_with fail
        refine (vInts_is U1 U2 u1 u2 ul (by omega) _ (RU1.below (by repeat (first | exact Below.refl _ _ | refine Below.alloc ?_ (by first | exact Nat.le_refl _ | (simp <;> omega)) _ | refine Below.setCell ?_ (by first | exact Nat.le_refl _ | (simp <;> omega)) _))) (RU2.below (by repeat (first | exact Below.refl _ _ | refine Below.alloc ?_ (by first | exact Nat.le_refl _ | (simp <;> omega)) _ | refine Below.setCell ?_ (by first | exact Nat.le_refl _ | (simp <;> omega)) _)))).mono ?_
        rintro e w17 ⟨rfl, hb17⟩
        have hq17 : Below w16.heap.size w16 w17 := bth (by repeat (first | exact Below.refl _ _ | refine Below.alloc ?_ (by first | exact Nat.le_refl _ | (simp <;> omega)) _ | refine Below.setCell ?_ (by first | exact Nat.le_refl _ | (simp <;> omega)) _)) hb17
        replace HB := bth HB hq17
        replace hX2 := hX2.below hq17
        replace hD2 := hD2.below hq17
        replace RT1 := RT1.below hq17
        replace RT2 := RT2.below hq17
        replace hX3 := hX3.below hq17
        replace hD3 := hD3.below hq17
        replace RU1 := RU1.below hq17
        replace RU2 := RU2.below hq17
        go_wp2
        go_ret
        exact ⟨rfl, HB⟩
  case true =>
    obtain ⟨hg, hla2⟩ := HGV.out rfl
    have HG := Lib.hid hg
    have HLA := Lib.hid hla2
    clear hg hla2 hbb
    go_wp2
    go_loopw [13] (fun v wr => ∃ k : Nat, k ≤ xs.length ∧ v = .int .i64 k ∧ Below wL.heap.size wL wr) (fun v _ => xs.length - (intOf v).toNat)
    case atStart => exact ⟨0, Nat.zero_le _, rfl, Below.refl _ _⟩
    case round =>
      obtain ⟨k, hk, rfl, hb⟩ := hrel
      have HB := bth HBL.out hb
      have hX := HX.out.below hb
      have hD := HD.out.below hb
      have RS := HRS.out.below hb
      have RF := HRF.out.below hb
      by_cases hlt : k < xs.length
      · have HK := Lib.hid (HFA.out (by trivial) k hlt)
        have hX := HX.out.below hb
        have HRW : Hid (Rds 1 intC (wr.alloc (.cells #[.int .i64 (k : Int)] 3)) (some ⟨wr.heap.size, 0, none⟩) [(k : Int)]) := Lib.hid (Rds.one _ _)
        have HCL := Lib.hid (fun W h h' => iClosure_is Y y xs (some ⟨wr.heap.size, 0, none⟩) 1 [(k : Int)] (by simp) W h h')
        have HZ1 := HK.out.one
        have HZ0 : Hid (ClFact xs ad k (clO xs [(k : Int)]) st fa) := HK
        rw [HZ1] at HCL
        clear HZ1
        generalize clO xs [(k : Int)] = zs at *
        have hzl := HZ0.out.len
        go_wp2_with fail
        refine (HCL.out _ (hX.below (by repeat (first | exact Below.refl _ _ | refine Below.alloc ?_ (by first | exact Nat.le_refl _ | (simp <;> omega)) _ | refine Below.setCell ?_ (by first | exact Nat.le_refl _ | (simp <;> omega)) _))) HRW.out).mono ?_
        rintro e w10 ⟨Z, z, rfl, OZ, hb10⟩
        have hq10 : Below wr.heap.size wr w10 := bth (by repeat (first | exact Below.refl _ _ | refine Below.alloc ?_ (by first | exact Nat.le_refl _ | (simp <;> omega)) _ | refine Below.setCell ?_ (by first | exact Nat.le_refl _ | (simp <;> omega)) _)) hb10
        replace HB := bth HB hq10
        replace hX := hX.below hq10
        replace hD := hD.below hq10
        replace RS := RS.below hq10
        replace RF := RF.below hq10
        have RZ := OZ.rds (hf := intC_len)
        clear OZ HCL HRW
        have hal0 : alP ad zs 0 = true := by simp [alP]
        have HA0 := Lib.hid hal0; clear hal0
        have HXc := Lib.hid hX; have HDc := Lib.hid hD; have HRSc := Lib.hid RS; have HRFc := Lib.hid RF; have HRZ := Lib.hid RZ
        clear hX hD RS RF RZ
        go_wp2
        go_loop [16, 17] (fun s v => ∃ q : Nat, q ≤ zs.length ∧ v = .int .i64 q ∧ s = .bool (alP ad zs q)) (fun _ v => zs.length - (intOf v).toNat)
        case atStart => exact ⟨0, Nat.zero_le _, rfl, by rw [HA0.out]⟩
        case round =>
          obtain ⟨q, hq, rfl, rfl⟩ := hrel
          by_cases hlq : q < zs.length
          · obtain ⟨b2, o2, m, rfl, hb2, hm, hcm⟩ := HRZ.out.at_ (Below.refl _ _) hlq
            obtain ⟨m, rfl, hmx, _⟩ := HZ0.out.mem m (List.mem_of_getElem? hm)
            have f0 := hcm 0 _ rfl (Kin.self _)
            simp only [Nat.mul_one, Nat.add_zero, Kin.self] at f0
            obtain ⟨bd, od, a, rfl, hbd, had, hcd⟩ := HDc.out.at_ (Below.refl _ _) (k := m) (by have := HLA.out; omega)
            have hma : (m : Int) < (ad.length : Int) := by have := HLA.out; omega
            have g0 := hcd 0 _ rfl (Kin.self _)
            simp only [Nat.mul_one, Nat.add_zero, Kin.self] at g0
            have has := alP_succ (ad := ad) hm
            rw [atP_at had] at has
            have HAS := Lib.hid has
            clear hcm hcd had has hm
            cases ht : alP ad zs q
            · have HT := Lib.hid ht
              clear ht
              go_wp2
              go_round
              case rel => exact ⟨q + 1, by omega, by go_num, by rw [HAS.out, HT.out]; rfl⟩
              case measure => simp [intOf]; omega
            · have HT := Lib.hid ht
              clear ht
              go_wp2
              go_round
              case rel => exact ⟨q + 1, by omega, by go_num, by rw [HAS.out, HT.out]; rfl⟩
              case measure => simp [intOf]; omega
          · obtain rfl : q = zs.length := by omega
            rw [HZ0.out.all]
            have hs1 := HZ0.out.hs
            have hs2 := HZ0.out.hf
            generalize stB (ndF xs) (atP ad) k = sv at *
            obtain ⟨bd, od, a, rfl, hbd, had, hcd⟩ := HDc.out.at_ (Below.refl _ _) (k := k) (by have := HLA.out; omega)
            have hka : (k : Int) < (ad.length : Int) := by have := HLA.out; omega
            have g0 := hcd 0 _ rfl
            simp only [Nat.mul_one, Nat.add_zero] at g0
            rw [atP_at had] at hs2
            have HS1 := Lib.hid hs1; have HS2 := Lib.hid hs2
            clear hcd had hs1 hs2
            cases a
            all_goals
              cases sv
              all_goals
                try simp only [Bool.true_and, Bool.false_and, Bool.not_true, Bool.not_false] at HS2
                go_wp2
                refine wp_region_kin (by kernel_rfl) (by kernel_rfl) ?_
                repeat (go_big_quiet_step ((first | (go_at_call_of 14 (Value.slice S1 st.length s1); exact Kin.same _ (vHas_is S1 s1 st (k : Int) hstl _ HS1.out _ (HRSc.out.below (Kin.below _)))) | (go_at_call_of 14 (Value.slice F1 fa.length f1); exact Kin.same _ (vHas_is F1 f1 fa (k : Int) hfal _ HS2.out _ (HRFc.out.below (Kin.below _)))))))
                refine wpQuiet_nil ?_
                intro K
                have hbK := K.below
                generalize K.world = wK at *
                clear g0
                go_wp2
                go_loopw [18] (fun v wq => ∃ q : Nat, q ≤ zs.length ∧ v = .int .i64 q ∧ Below wK.heap.size wK wq) (fun v _ => zs.length - (intOf v).toNat)
                case atStart => exact ⟨0, Nat.zero_le _, rfl, Below.refl _ _⟩
                case round =>
                  obtain ⟨q, hq, rfl, hbq⟩ := hrel
                  have hbZ := bth hbK hbq
                  have HBq := bth HB hbZ
                  have hXq := HXc.out.below hbZ
                  by_cases hlq : q < zs.length
                  · obtain ⟨b2, o2, m, rfl, hb2, hm, hcm⟩ := HRZ.out.at_ hbZ hlq
                    obtain ⟨m, rfl, hmx, hmk⟩ := HZ0.out.mem m (List.mem_of_getElem? hm)
                    have f0 := hcm 0 _ rfl (Kin.self _)
                    simp only [Nat.mul_one, Nat.add_zero, Kin.self] at f0
                    have HM := Lib.hid hmk
                    have HMZ := Lib.hid hm
                    have HDE := Lib.hid (fun W h => iDependents_is Y y xs m hmx HG.out W h)
                    have hdl := chN_len (fun j => dpA (ndF xs) j m) xs.length
                    clear hcm hm hmk
                    generalize chN (fun j => dpA (ndF xs) j m) xs.length = dl at *
                    by_cases hmk : m = k
                    · subst hmk
                      have hmm : ((m : Int) == (m : Int)) = true := by simp
                      go_wp2_with ((go_at_call 15; refine (HDE.out _ hXq).mono ?_; rintro e w9 ⟨L9, l9, rfl, O9, hb9⟩; have f9 := rd_cellC (HRZ.out.below (bth hbZ hb9)) HMZ.out (i := 0) (u := .int .i64 (m : Int)) rfl; simp only [Nat.mul_one, Nat.add_zero] at f9; obtain ⟨f9l, f9⟩ := f9))
                      go_roundw
                      case rel => exact ⟨q + 1, by omega, by go_num, bth hbq hb9⟩
                      case measure => simp [intOf]; omega
                    · have hmm : ((m : Int) == (k : Int)) = false := by rw [beq_eq_false_iff_ne]; omega
                      have hhd : hasB dl (k : Int) = true := HM.out.resolve_left hmk
                      have HHD := Lib.hid hhd; clear hhd
                      go_wp2_with ((go_at_call 15; refine (HDE.out _ hXq).mono ?_; rintro e w9 ⟨L9, l9, rfl, O9, hb9⟩; have f9 := rd_cellC (HRZ.out.below (bth hbZ hb9)) HMZ.out (i := 0) (u := .int .i64 (m : Int)) rfl; simp only [Nat.mul_one, Nat.add_zero] at f9; obtain ⟨f9l, f9⟩ := f9))
                      have O9R := O9.rds (hf := intC_len)
                      clear O9
                      go_wp2_with ((go_at_call 14; refine (vHas_is L9 l9 dl (k : Int) (by omega) _ HHD.out _ O9R).mono ?_; rintro e w10 ⟨rfl, rfl⟩))
                      go_roundw
                      case rel => exact ⟨q + 1, by omega, by go_num, bth hbq hb9⟩
                      case measure => simp [intOf]; omega
                  · obtain rfl : q = zs.length := by omega
                    go_wp2
                    go_roundw
                    case rel => exact ⟨k + 1, by omega, by go_num, bth hb (bth hq10 hbZ)⟩
                    case measure => simp [intOf]; omega
      · obtain rfl : k = xs.length := by omega
        clear hX hD RS RF
        go_wp2_with fail
        refine (drawDividedC_is A c cs hcs _ (HR.out.below HB)).mono ?_
        rintro e w11 ⟨xs2, Y2, y2, ad2, D2, d2, rfl, hxl2, hal2, hX2, hD2, hb11⟩
        have hq11 : Below wr.heap.size wr w11 := bth (by repeat (first | exact Below.refl _ _ | refine Below.alloc ?_ (by first | exact Nat.le_refl _ | (simp <;> omega)) _ | refine Below.setCell ?_ (by first | exact Nat.le_refl _ | (simp <;> omega)) _)) hb11
        replace HB := bth HB hq11
        go_wp2_with fail
        refine (iDivided_is Y2 y2 xs2 D2 d2 ad2 (by omega) _ (hX2.below (by repeat (first | exact Below.refl _ _ | refine Below.alloc ?_ (by first | exact Nat.le_refl _ | (simp <;> omega)) _ | refine Below.setCell ?_ (by first | exact Nat.le_refl _ | (simp <;> omega)) _))) (hD2.below (by repeat (first | exact Below.refl _ _ | refine Below.alloc ?_ (by first | exact Nat.le_refl _ | (simp <;> omega)) _ | refine Below.setCell ?_ (by first | exact Nat.le_refl _ | (simp <;> omega)) _)))).mono ?_
        rintro e w12 ⟨T1, t1, rfl, OT1, hb12⟩
        have hq12 : Below w11.heap.size w11 w12 := bth (by repeat (first | exact Below.refl _ _ | refine Below.alloc ?_ (by first | exact Nat.le_refl _ | (simp <;> omega)) _ | refine Below.setCell ?_ (by first | exact Nat.le_refl _ | (simp <;> omega)) _)) hb12
        replace HB := bth HB hq12
        replace hX2 := hX2.below hq12
        replace hD2 := hD2.below hq12
        have RT1 := OT1.rds (hf := bC_len)
        clear OT1
        go_wp2_with fail
        refine (sDivided_is Y2 y2 xs2 D2 d2 ad2 (by omega) _ (hX2.below (by repeat (first | exact Below.refl _ _ | refine Below.alloc ?_ (by first | exact Nat.le_refl _ | (simp <;> omega)) _ | refine Below.setCell ?_ (by first | exact Nat.le_refl _ | (simp <;> omega)) _))) (hD2.below (by repeat (first | exact Below.refl _ _ | refine Below.alloc ?_ (by first | exact Nat.le_refl _ | (simp <;> omega)) _ | refine Below.setCell ?_ (by first | exact Nat.le_refl _ | (simp <;> omega)) _)))).mono ?_
        rintro e w13 ⟨T2, t2, rfl, OT2, hb13⟩
        have hq13 : Below w12.heap.size w12 w13 := bth (by repeat (first | exact Below.refl _ _ | refine Below.alloc ?_ (by first | exact Nat.le_refl _ | (simp <;> omega)) _ | refine Below.setCell ?_ (by first | exact Nat.le_refl _ | (simp <;> omega)) _)) hb13
        replace HB := bth HB hq13
        replace hX2 := hX2.below hq13
        replace hD2 := hD2.below hq13
        replace RT1 := RT1.below hq13
        have RT2 := OT2.rds (hf := bC_len)
        clear OT2
        have htl := dvO_len xs2 ad2
        have hbv := bnn (dvB xs2 ad2)
        generalize dvO xs2 ad2 = tl at *
        generalize dvB xs2 ad2 = tb at *
        go_wp2_with fail
        refine (vTexts_is T1 T2 t1 t2 tl (by omega) _ (RT1.below (by repeat (first | exact Below.refl _ _ | refine Below.alloc ?_ (by first | exact Nat.le_refl _ | (simp <;> omega)) _ | refine Below.setCell ?_ (by first | exact Nat.le_refl _ | (simp <;> omega)) _))) (RT2.below (by repeat (first | exact Below.refl _ _ | refine Below.alloc ?_ (by first | exact Nat.le_refl _ | (simp <;> omega)) _ | refine Below.setCell ?_ (by first | exact Nat.le_refl _ | (simp <;> omega)) _)))).mono ?_
        rintro e w14 ⟨rfl, hb14⟩
        have hq14 : Below w13.heap.size w13 w14 := bth (by repeat (first | exact Below.refl _ _ | refine Below.alloc ?_ (by first | exact Nat.le_refl _ | (simp <;> omega)) _ | refine Below.setCell ?_ (by first | exact Nat.le_refl _ | (simp <;> omega)) _)) hb14
        replace HB := bth HB hq14
        replace hX2 := hX2.below hq14
        replace hD2 := hD2.below hq14
        replace RT1 := RT1.below hq14
        replace RT2 := RT2.below hq14
        clear hbv
        go_wp2_with fail
        refine (drawClosureC_is A c cs hcs _ (HR.out.below HB)).mono ?_
        rintro e w15 ⟨xs3, Y3, y3, ds3, D3, d3, rfl, hxl3, hdl3, hX3, hD3, hN3, hb15⟩
        have hq15 : Below w14.heap.size w14 w15 := bth (by repeat (first | exact Below.refl _ _ | refine Below.alloc ?_ (by first | exact Nat.le_refl _ | (simp <;> omega)) _ | refine Below.setCell ?_ (by first | exact Nat.le_refl _ | (simp <;> omega)) _)) hb15
        replace HB := bth HB hq15
        replace hX2 := hX2.below hq15
        replace hD2 := hD2.below hq15
        replace RT1 := RT1.below hq15
        replace RT2 := RT2.below hq15
        have HN3 := Lib.hid hN3; clear hN3
        go_wp2_with fail
        refine (iClosure_is Y3 y3 xs3 D3 d3 ds3 (by omega) _ (hX3.below (by repeat (first | exact Below.refl _ _ | refine Below.alloc ?_ (by first | exact Nat.le_refl _ | (simp <;> omega)) _ | refine Below.setCell ?_ (by first | exact Nat.le_refl _ | (simp <;> omega)) _))) (hD3.below (by repeat (first | exact Below.refl _ _ | refine Below.alloc ?_ (by first | exact Nat.le_refl _ | (simp <;> omega)) _ | refine Below.setCell ?_ (by first | exact Nat.le_refl _ | (simp <;> omega)) _)))).mono ?_
        rintro e w16 ⟨U1, u1, rfl, OU1, hb16⟩
        have hq16 : Below w15.heap.size w15 w16 := bth (by repeat (first | exact Below.refl _ _ | refine Below.alloc ?_ (by first | exact Nat.le_refl _ | (simp <;> omega)) _ | refine Below.setCell ?_ (by first | exact Nat.le_refl _ | (simp <;> omega)) _)) hb16
        replace HB := bth HB hq16
        replace hX2 := hX2.below hq16
        replace hD2 := hD2.below hq16
        replace RT1 := RT1.below hq16
        replace RT2 := RT2.below hq16
        replace hX3 := hX3.below hq16
        replace hD3 := hD3.below hq16
        have RU1 := OU1.rds (hf := intC_len)
        clear OU1
        go_wp2_with fail
        refine (sClosure_is Y3 y3 xs3 D3 d3 ds3 (by omega) HN3.out _ (hX3.below (by repeat (first | exact Below.refl _ _ | refine Below.alloc ?_ (by first | exact Nat.le_refl _ | (simp <;> omega)) _ | refine Below.setCell ?_ (by first | exact Nat.le_refl _ | (simp <;> omega)) _))) (hD3.below (by repeat (first | exact Below.refl _ _ | refine Below.alloc ?_ (by first | exact Nat.le_refl _ | (simp <;> omega)) _ | refine Below.setCell ?_ (by first | exact Nat.le_refl _ | (simp <;> omega)) _)))).mono ?_
        rintro e w17 ⟨U2, u2, rfl, OU2, hb17⟩
        have hq17 : Below w16.heap.size w16 w17 := bth (by repeat (first | exact Below.refl _ _ | refine Below.alloc ?_ (by first | exact Nat.le_refl _ | (simp <;> omega)) _ | refine Below.setCell ?_ (by first | exact Nat.le_refl _ | (simp <;> omega)) _)) hb17
        replace HB := bth HB hq17
        replace hX2 := hX2.below hq17
        replace hD2 := hD2.below hq17
        replace RT1 := RT1.below hq17
        replace RT2 := RT2.below hq17
        replace hX3 := hX3.below hq17
        replace hD3 := hD3.below hq17
        replace RU1 := RU1.below hq17
        have RU2 := OU2.rds (hf := intC_len)
        clear OU2
        have hul := clO_len xs3 ds3
        have hbu := bee (cloB xs3 ds3)
        generalize clO xs3 ds3 = ul at *
        generalize cloB xs3 ds3 = ub at *
        go_wp2_with fail
        refine (vInts_is U1 U2 u1 u2 ul (by omega) _ (RU1.below (by repeat (first | exact Below.refl _ _ | refine Below.alloc ?_ (by first | exact Nat.le_refl _ | (simp <;> omega)) _ | refine Below.setCell ?_ (by first | exact Nat.le_refl _ | (simp <;> omega)) _))) (RU2.below (by repeat (first | exact Below.refl _ _ | refine Below.alloc ?_ (by first | exact Nat.le_refl _ | (simp <;> omega)) _ | refine Below.setCell ?_ (by first | exact Nat.le_refl _ | (simp <;> omega)) _)))).mono ?_
        rintro e w18 ⟨rfl, hb18⟩
        have hq18 : Below w17.heap.size w17 w18 := bth (by repeat (first | exact Below.refl _ _ | refine Below.alloc ?_ (by first | exact Nat.le_refl _ | (simp <;> omega)) _ | refine Below.setCell ?_ (by first | exact Nat.le_refl _ | (simp <;> omega)) _)) hb18
        replace HB := bth HB hq18
        replace hX2 := hX2.below hq18
        replace hD2 := hD2.below hq18
        replace RT1 := RT1.below hq18
        replace RT2 := RT2.below hq18
        replace hX3 := hX3.below hq18
        replace hD3 := hD3.below hq18
        replace RU1 := RU1.below hq18
        replace RU2 := RU2.below hq18
        go_wp2
        go_ret
        exact ⟨rfl, HB⟩
end Go.Proofs.Ytndenojanflkgaa
