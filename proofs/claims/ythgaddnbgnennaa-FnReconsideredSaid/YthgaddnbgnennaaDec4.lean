/- Decided questions: who changed sides. -/
import Derived.Test.YthgaddnbgnennaaDec3
import Derived.Deep.RegionWith
import Derived.Deep.Cut
namespace Go.Proofs.Ythgaddnbgnennaa
open Go.RowKit Go.G9
def mems (p : Int → Bool) : Nat → List Int
  | 0 => []
  | k + 1 => mems p k ++ (if p ((k : Int) + 1) then [(k : Int) + 1] else [])
theorem mems_len (p : Int → Bool) : ∀ k, (mems p k).length ≤ k
  | 0 => Nat.le_refl _
  | k + 1 => by have := mems_len p k; unfold mems; split <;> simp <;> omega
def cmP (d : Dec) (ys ns : List Int) (m : Int) : Bool := (hasB d.yes m && hasB ns m) || (hasB d.no m && hasB ys m)
def cmOk (d : Dec) (ys ns : List Int) : Bool := decB d && sidesB ys ns
def cmL (d : Dec) (ys ns : List Int) : List Int := if cmOk d ys ns then mems (cmP d ys ns) 99 else []
theorem isMember_is (n : Int) (v : Bool) (hv : inB n 1 99 = v) (w : World) : Calls Try.prog 56 #[.int .i64 n] w fun e w' => e = .returned (.bool v) ∧ w' = w := by
  subst hv
  go_enter Try.func56, Try.ntmps56
  go_wp2_with (go_at_call 60; refine (inside_is _ _ _ _ rfl _).mono ?_; rintro e w' ⟨rfl, rfl⟩)
  go_ret
  exact ⟨rfl, rfl⟩
set_option maxHeartbeats 4000000 in
set_option maxRecDepth 100000 in
theorem changedMinds_is (d : Dec) (Y N : Option Addr) (yc nc : Nat) (hy : d.yes.length ≤ 1048576) (hn : d.no.length ≤ 1048576) (E F : Option Addr) (ec fc : Nat) (es fs : List Int) (he : es.length ≤ 1048576) (hf : fs.length ≤ 1048576) (w : World)
    (hRy : Rds 1 intC w Y d.yes) (hRn : Rds 1 intC w N d.no) (hRe : Rds 1 intC w E es) (hRf : Rds 1 intC w F fs) :
  Calls Try.prog 46 #[.agg #[.int .i64 d.id, .int .i64 d.day, .int .i64 d.need, .slice Y d.yes.length yc, .slice N d.no.length nc, .bool d.done], .slice E es.length ec, .slice F fs.length fc] w
    fun e w' => ∃ A c, e = .returned (.tuple #[.slice A (cmL d es fs).length c, .bool (cmOk d es fs)]) ∧ OwnV w.heap.size 3 1 intC w' (.slice A (cmL d es fs).length c) (cmL d es fs) ∧ Below w.heap.size w w' := by
  obtain ⟨i0, hi, hz0, hz1, hz2⟩ := info_parts info_int
  cases hd : decB d
  · go_enter Try.func46, Try.ntmps46
    go_wp2_with fail
    refine (isValidDecided_is d Y N yc nc hy hn _ hd _ (hRy.below (bl1 _ _)) (hRn.below (bl1 _ _))).mono ?_
    rintro e w1 ⟨rfl, hb1⟩
    go_wp2
    go_ret2
    have h1 : cmOk d es fs = false := by simp [cmOk, hd]
    have h2 : cmL d es fs = [] := by simp [cmL, h1]
    rw [h1, h2]
    exact ⟨none, 0, rfl, OwnV.nil, bth (bl1 _ _) hb1⟩
  cases hs : sidesB es fs
  · go_enter Try.func46, Try.ntmps46
    go_wp2_with fail
    refine (isValidDecided_is d Y N yc nc hy hn _ hd _ (hRy.below (bl1 _ _)) (hRn.below (bl1 _ _))).mono ?_
    rintro e w1 ⟨rfl, hb1⟩
    have hb1' := bth (bl1 _ _) hb1
    go_wp2_with fail
    refine (areSides_is E F ec fc es fs he hf _ hs _ (hRe.below hb1') (hRf.below hb1')).mono ?_
    rintro e w2 ⟨rfl, hb2⟩
    go_wp2
    go_ret2
    have h1 : cmOk d es fs = false := by simp [cmOk, hs]
    have h2 : cmL d es fs = [] := by simp [cmL, h1]
    rw [h1, h2]
    exact ⟨none, 0, rfl, OwnV.nil, bth hb1' hb2⟩
  · have h1 : cmOk d es fs = true := by simp [cmOk, hs, hd]
    have h2 : cmL d es fs = mems (cmP d es fs) 99 := by simp [cmL, h1]
    have H1 := Lib.hid h1; have H2 := Lib.hid h2; clear h1 h2
    go_enter Try.func46, Try.ntmps46
    go_wp2_with fail
    refine (isValidDecided_is d Y N yc nc hy hn _ hd _ (hRy.below (bl1 _ _)) (hRn.below (bl1 _ _))).mono ?_
    rintro e w1 ⟨rfl, hb1⟩
    have hA := Blk.below (Blk.new w 28 #[.int .i64 d.id, .int .i64 d.day, .int .i64 d.need, .slice Y d.yes.length yc, .slice N d.no.length nc, .bool d.done]) hb1 (by simp)
    have hb1' := bth (bl1 _ _) hb1
    go_wp2_with fail
    refine (areSides_is E F ec fc es fs he hf _ hs _ (hRe.below hb1') (hRf.below hb1')).mono ?_
    rintro e w2 ⟨rfl, hb2⟩
    have hb2' := bth hb1' hb2
    have hA2 := hA.below hb2 hA.lt
    have hRy2 := hRy.below hb2'
    have hRn2 := hRn.below hb2'
    have hRe2 := hRe.below hb2'
    have hRf2 := hRf.below hb2'
    go_wp2
    go_loopw [8, 9] (fun v i wr => ∃ k : Nat, k ≤ 99 ∧ i = .int .i64 ((k : Int) + 1) ∧ OwnV w2.heap.size 3 1 intC wr v (mems (cmP d es fs) k) ∧ Below w2.heap.size w2 wr) (fun _ i _ => 100 - (intOf i).toNat)
    case atStart => exact ⟨0, by omega, rfl, OwnV.made w2 (Nat.le_refl _) _, bl1 _ _⟩
    case round =>
      obtain ⟨k, hk, rfl, hO, hb⟩ := hrel
      by_cases hlt : k < 99
      · have hm : inB ((k : Int) + 1) 1 99 = true := inB_iff.2 (by omega)
        have hAr := hA2.below hb hA2.lt
        have hK : ∀ W, Below wr.heap.size wr W → Blk W w.heap.size 28 #[.int .i64 d.id, .int .i64 d.day, .int .i64 d.need, .slice Y d.yes.length yc, .slice N d.no.length nc, .bool d.done] := fun W h => hAr.below h hAr.lt
        have a3 := fun K : Kin wr.heap.size wr => (hK K.world K.below).cell 3
        have a4 := fun K : Kin wr.heap.size wr => (hK K.world K.below).cell 4
        simp at a3 a4
        have hO' : ∀ K : Kin wr.heap.size wr, OwnV w2.heap.size 3 1 intC K.world _ (mems (cmP d es fs) k) := fun K => hO.later K.below
        have HO := Lib.hid hO'; clear hO' hK hAr
        have RY := Lib.hid (hRy2.below hb); have RN := Lib.hid (hRn2.below hb); have RE := Lib.hid (hRe2.below hb); have RF := Lib.hid (hRf2.below hb)
        have hml := mems_len (cmP d es fs) k
        go_upto_region 7 with (go_at_call 56; refine (isMember_is _ _ hm _).mono ?_; rintro e w' ⟨rfl, rfl⟩)
        cases b1 : hasB d.yes ((k : Int) + 1) <;> cases b2 : hasB fs ((k : Int) + 1) <;> cases b3 : hasB d.no ((k : Int) + 1) <;> cases b4 : hasB es ((k : Int) + 1)
        all_goals
          refine wp_region_seq ?_
          repeat (go_big_quiet_step ((first | (go_at_call_of 58 (Value.slice Y d.yes.length yc); exact Kin.call _ (by first | exact Nat.le_refl _ | omega) (contains_int Y yc _ _ hy _ b1 _ (RY.out.below (Kin.below _)))) | (go_at_call_of 58 (Value.slice F fs.length fc); exact Kin.call _ (by first | exact Nat.le_refl _ | omega) (contains_int F fc _ _ hf _ b2 _ (RF.out.below (Kin.below _)))) | (go_at_call_of 58 (Value.slice N d.no.length nc); exact Kin.call _ (by first | exact Nat.le_refl _ | omega) (contains_int N nc _ _ hn _ b3 _ (RN.out.below (Kin.below _)))) | (go_at_call_of 58 (Value.slice E es.length ec); exact Kin.call _ (by first | exact Nat.le_refl _ | omega) (contains_int E ec _ _ he _ b4 _ (RE.out.below (Kin.below _)))))))
          refine wpQuiet_nil ?_
          intro K
          have hsz1 := K.below.size
          have hsz2 := hb.size
          have hOK := HO.out K
          have HOK := Lib.hid hOK; clear hOK
        all_goals first
          | (have hcp : cmP d es fs ((k : Int) + 1) = true := by simp [cmP, b1, b2, b3, b4]
             have HCP := Lib.hid hcp; clear hcp
             go_wp2_with ((at_builtin; refine wpList_app rfl _ _ 22 rfl w2.heap.size 3 i0 _ 1 8 Try.underlying22 hi hz0 hz1 hz2 rfl (by decide) intC intC_len intC_one _ (mems (cmP d es fs) k) rfl (HOK.out.alloc _) (some ⟨K.world.heap.size, 0, none⟩) 1 [(k : Int) + 1] rfl (Rds.one _ _) (fun h => by cases h) (by unfold maxLen; simp; omega) (by simp; omega) (by simp; omega) ?_; intro v' w4 hO4 hg4))
             have hB4 : Below w2.heap.size w2 w4 := ((bth hb K.below).alloc (by omega) _).grown hg4 (by simp; omega) (fun q hq => (HOK.out.lt q hq).1)
             go_roundw
             case rel => exact ⟨k + 1, by omega, by go_num, by rw [show mems (cmP d es fs) (k + 1) = mems (cmP d es fs) k ++ [(k : Int) + 1] from by rw [mems, if_pos HCP.out]]; exact hO4, hB4⟩
             case measure => simp [intOf]; omega)
          | (have hcp : cmP d es fs ((k : Int) + 1) = false := by simp [cmP, b1, b2, b3, b4]
             have HCP := Lib.hid hcp; clear hcp
             go_wp2
             go_roundw
             case rel => exact ⟨k + 1, by omega, by go_num, by rw [show mems (cmP d es fs) (k + 1) = mems (cmP d es fs) k from by rw [mems, HCP.out]; simp]; exact HOK.out, bth hb K.below⟩
             case measure => simp [intOf]; omega)
      · obtain rfl : k = 99 := by omega
        have hm : inB ((99 : Nat) + 1 : Int) 1 99 = false := by decide
        have hm' : inB (100 : Int) 1 99 = false := by decide
        obtain ⟨A, c, rfl, hl, _, _⟩ := hO.form intC_len
        go_wp2_with (go_at_call 56; refine (isMember_is _ _ hm' _).mono ?_; rintro e w' ⟨rfl, rfl⟩)
        go_ret2
        rw [H1.out, H2.out]
        exact ⟨A, c, rfl, hO.base hb2'.size, bth hb2' hb⟩
end Go.Proofs.Ythgaddnbgnennaa
