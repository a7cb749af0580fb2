/- append to an empty slice without room: it makes memory, it writes nothing. -/
import Derived.Test.YtbnncgahepcfnaaGreatDoorNo8
import Derived.Test.YtbnncgahepcfnaaGreatDoorNo7
import Derived.Test.YtbnncgahepcfnaaGreatDoorNo6
namespace Go.G9
open Go.RowKit
theorem wpList_appE {P : Program} {w : World} {ops : Array Oper} {rest : List Oper} {o : Oper} {a : Act} {Q : Exit → Act → World → Prop} (hgd : o.guard = none) (s x : Operand) (t : TypeId)
    (ho : o.op = .call { callee := .builtin .append, args := #[s, x], argTypes := #[t, t] })
    (B : Nat) (e : TypeId) (i : TypeInfo) (z : Value) (sz bytes : Nat) (ht : P.underlying t = some (.slice e)) (hi : P.info? e = some i) (hz : i.zero = some z)
    (hsize : i.size = sz) (hby : i.bytes = bytes) (hzs : z.cells.size = sz) (hsz : 0 < sz) {T : Type} (f : T → List Value) (hf : ∀ y, (f y).length = sz) (_hone : ∀ y u, u ∈ f y → u.oneCell' = true)
    (g : Nat) (hs : a.eval s = .slice (some ⟨g, 0, none⟩) 0 0) (hg : Blk w g e #[]) (hBg : B ≤ g) (ad : Addr) (c2 : Nat) (ys : List T) (hx : a.eval x = .slice (some ad) ys.length c2) (hR : Rds sz f w (some ad) ys)
    (h63 : ys.length ≤ maxLen) (hbytes : ys.length * bytes ≤ 140737488355328)
    (h : ∀ g' c' w', OwnV B e sz f w' (.slice (some ⟨g', 0, none⟩) ys.length c') ys → Below w.heap.size w w' → (g' = g ∨ w.heap.size ≤ g') → wpList P ops Q rest (a.put o.dst (.slice (some ⟨g', 0, none⟩) ys.length c')) w') : wpList P ops Q (o :: rest) a w := by
  rcases Nat.eq_zero_or_pos ys.length with h0 | h0
  · have hy : ys = [] := List.length_eq_zero_iff.1 h0
    subst hy
    refine wpList_roomB hgd s x t ho e i ht hi g 0 0 #[] hs hg ad 0 c2 [] hx (by simp) (fun j u hu => by simp at hu) (fun u hu => by simp at hu) (by omega) (by simp) fun W' cs' hcs hb hgr => ?_
    have hcs' : cs' = [] := by rw [hcs]; simp
    subst hcs'
    have hb' : Blk W' g e #[] := hb
    refine h g 0 W' ?_ ⟨hgr.os, hgr.tape, hgr.output, hgr.size, fun k hk => ?_⟩ (.inl rfl)
    · exact OwnV.filled (xs := []) hb' hBg (by simp) (by unfold maxLen; simp) (by simp) hf
    · by_cases hkg : k = g
      · subst hkg; exact Eq.trans hb' (Eq.symm hg)
      · exact hgr.block k hk (fun e => hkg (Option.some.inj e))
  · subst hsize; subst hby
    have hge := grownCap_ge w (0 + ys.length) 0 e
    have hcm := grownCap_le_maxLen w (0 + ys.length) 0 e (by omega)
    have hml := h63
    unfold maxLen at hml
    have hr := run_append_grow (P := P) w t o.type e i z ht hi hz ⟨g, 0, none⟩ 0 0 [] (by simp) (by intro j v hj; simp at hj) ad ys.length c2 (ys.flatMap f) (flat_len hf ys) (fun j u hu => Rds.flat hR hf j u hu)
      (by omega) (by omega) (by rw [Nat.zero_add, nextslicecap_zero h0]; omega)
    refine wpList_plain hgd fun _ hK => ?_
    unfold Oper.wp execOp
    simp only [ho, resolve, invoke, builtin, Sem.run_bind, Sem.run_pure, Result.andThen_ok, List.map_toArray, List.map_cons, List.map_nil, hs, hx, hr]
    refine hK _ _ ?_
    rw [Nat.zero_add]
    rw [Nat.zero_add] at hge hcm
    refine h w.heap.size _ _ ?_ ⟨rfl, rfl, rfl, by simp, fun k hk => (bl1 w.drew _).block k hk⟩ (.inr (Nat.le_refl _))
    refine ⟨flat_len hf ys, .inr ⟨w.heap.size, _, _, rfl, Nat.le_trans hBg (Nat.le_of_lt (Array.getElem?_eq_some_iff.1 hg).1), (Blk.new w.drew _ _), hge, hcm, ?_, ?_⟩⟩
    · simp only [Array.size_append, List.size_toArray, size_zeroCells, hzs, flat_len hf, List.length_nil, Nat.zero_add, ← Nat.add_mul]
      congr 1
      omega
    · simp [flat_len hf]
end Go.G9
/- A notice is withdrawn. -/
namespace Go.Proofs.YtbnncgahepcfnaaGreatDoor
open Go.RowKit Go.G9
theorem Rds.take {T : Type} {sz : Nat} {f : T → List Value} {w : World} {A : Option Addr} {xs : List T} (h : Rds sz f w A xs) (k : Nat) : Rds sz f w A (xs.take k) := fun hn => by
  rw [List.length_take] at hn
  obtain ⟨b, off, hA, hlt, hc⟩ := h (by omega)
  refine ⟨b, off, hA, hlt, fun i x hx => hc i x ?_⟩
  rw [List.getElem?_take] at hx
  split at hx
  · exact hx
  · cases hx
theorem Rds.drop {T : Type} {sz : Nat} {f : T → List Value} {w : World} {b off : Nat} {xs : List T} (h : Rds sz f w (some ⟨b, off, none⟩) xs) (k : Nat) (_ : 0 < sz) : Rds sz f w (some ⟨b, off + k * sz, none⟩) (xs.drop k) := fun hn => by
  rw [List.length_drop] at hn
  obtain ⟨b', off', hA, hlt, hc⟩ := h (by omega)
  injection hA with hA; injection hA with h1 h2; subst h1 h2
  refine ⟨b, off + k * sz, rfl, hlt, fun i x hx j u hu => ?_⟩
  rw [List.getElem?_drop] at hx
  have := hc (k + i) x hx j u hu
  rwa [Nat.add_mul, ← Nat.add_assoc off] at this
def wnP (id : Int) (n : Ntc) : Bool := n.id == id
def wnOk (xs : List Ntc) (id : Int) : Bool := noticesB xs && xs.any (wnP id)
def wnL (xs : List Ntc) (id : Int) : List Ntc := if wnOk xs id then xs.eraseIdx (idxB (wnP id) xs).toNat else []
theorem wnL_len (xs : List Ntc) (id : Int) (h : xs.length ≤ 1048576) : (wnL xs id).length ≤ 1048576 := by
  unfold wnL; split
  · have := List.length_eraseIdx_le xs (idxB (wnP id) xs).toNat; omega
  · simp
set_option maxHeartbeats 1000000 in
set_option maxRecDepth 100000 in
theorem indexFunc_Ntc (A : Option Addr) (c : Nat) (xs : List Ntc) (hn : xs.length ≤ 1048576) (f : FuncId) (cv : Array Value) (hcall : ∀ args W, (callFunc f args).run Tryz.prog W = .ok (.enter f args) W) (p : Ntc → Bool) (v : Int) (hv : idxB p xs = v) (w : World) (hR : Rds 4 Ntc.cells w A xs)
    (hf : ∀ x, x ∈ xs → ∀ W, Below w.heap.size w W → Calls Tryz.prog f (#[.agg #[.int .i64 x.id, .string x.topic, .int .i64 x.given, .int .i64 x.days]] ++ cv) W fun e w' => e = .returned (.bool (p x)) ∧ Below W.heap.size W w') :
  Calls Tryz.prog 77 #[.slice A xs.length c, .func (.func f) #[] cv] w fun e w' => e = .returned (.int .i64 v) ∧ Below w.heap.size w w' := by
  subst hv
  have HF := Lib.hid hf; clear hf
  go_enter Tryz.func77, Tryz.ntmps77
  go_wp2
  go_loopw [8] (fun i wr => ∃ k : Nat, k ≤ xs.length ∧ i = .int .i64 k ∧ allTo (fun i => !atB p xs i) k = true ∧ Below w.heap.size w wr) (fun i _ => xs.length - (intOf i).toNat)
  case atStart => exact ⟨0, Nat.zero_le _, rfl, rfl, Below.refl _ _⟩
  case round =>
    obtain ⟨k, hk, rfl, hl, hb⟩ := hrel
    have HL := Lib.hid hl; clear hl
    by_cases hlt : k < xs.length
    · obtain ⟨b, off, x, rfl, hbl, hx, hcx⟩ := hR.at_ hb hlt
      have HF' := Lib.hid (HF.out x (List.mem_of_getElem? hx))
      obtain ⟨nid, s, gv, d, hs⟩ := x
      have f0 := hcx 0 _ rfl
      have f1 := hcx 1 _ rfl
      have f2 := hcx 2 _ rfl
      have f3 := hcx 3 _ rfl
      simp only [Nat.add_zero] at f0
      have g0 := f0 (Kin.self _)
      have g1 := f1 (Kin.self _)
      have g2 := f2 (Kin.self _)
      have g3 := f3 (Kin.self _)
      simp only [Kin.self] at g0
      simp only [Kin.self] at g1
      simp only [Kin.self] at g2
      simp only [Kin.self] at g3
      have HX := Lib.hid hx; clear hx hcx
      go_wp2_with fail
      refine (HF'.out _ hb).mono ?_
      rintro e w' ⟨rfl, hb'⟩
      cases hp : p ⟨nid, s, gv, d, hs⟩
      · go_wp2
        go_roundw
        case rel => exact ⟨k + 1, by omega, by go_num, allTo_go HL.out (by simp [atB, HX.out, hp]), bth hb hb'⟩
        case measure => simp [intOf]; omega
      · go_wp2
        go_ret
        exact ⟨ret_int (idxB_found hlt HL.out (by simp [atB, HX.out, hp])).symm, bth hb hb'⟩
    · obtain rfl : k = xs.length := by omega
      go_wp2
      go_ret
      exact ⟨ret_int (idxB_none HL.out).symm, hb⟩
theorem wnClo_is (id : Int) (g : Nat) (x : Ntc) (W : World) (hg : W.cell? ⟨g, 0, none⟩ = some (.int .i64 id)) (hl : g < W.heap.size) :
  Calls Tryz.prog 78 (#[.agg #[.int .i64 x.id, .string x.topic, .int .i64 x.given, .int .i64 x.days]] ++ #[.pointer (some ⟨g, 0, none⟩)]) W fun e w' => e = .returned (.bool (wnP id x)) ∧ Below W.heap.size W w' := by
  cases hb : x.id == id
  all_goals
    have hb2 := Lib.hid hb
    go_enter Tryz.func78, Tryz.ntmps78
    go_wp2
    go_ret
    exact ⟨by rw [wnP, hb2.out]; rfl, bl1 _ _⟩
set_option maxHeartbeats 2000000 in
set_option maxRecDepth 100000 in
theorem iWithdraw_is (A : Option Addr) (c : Nat) (xs : List Ntc) (hn : xs.length ≤ 1048576) (id : Int) (w : World) (hR : Rds 4 Ntc.cells w A xs) :
  Calls Tryz.prog 33 #[.slice A xs.length c, .int .i64 id] w fun e w' => ∃ A c, e = .returned (.tuple #[.slice A (wnL xs id).length c, .bool (wnOk xs id)]) ∧ OwnV w.heap.size 42 4 Ntc.cells w' (.slice A (wnL xs id).length c) (wnL xs id) ∧ Below w.heap.size w w' := by
  obtain ⟨i0, hi0, hz0, hz1, hz2⟩ := info_parts info_Ntc
  have hir := idxB_lt (wnP id) xs
  have hig := idxB_ge (wnP id) xs
  have hf : ∀ x, x ∈ xs → ∀ W, Below (w.alloc (.cells #[.int .i64 id] 3)).heap.size (w.alloc (.cells #[.int .i64 id] 3)) W → Calls Tryz.prog 78 (#[.agg #[.int .i64 x.id, .string x.topic, .int .i64 x.given, .int .i64 x.days]] ++ #[.pointer (some ⟨w.heap.size, 0, none⟩)]) W fun e w' => e = .returned (.bool (wnP id x)) ∧ Below W.heap.size W w' := fun x _ W hW => by
    have hB := Blk.below (Blk.new w 3 #[.int .i64 id]) hW (by simp)
    exact wnClo_is id w.heap.size x W (hB.cell 0) hB.lt
  have hidx := indexFunc_Ntc A c xs hn 78 #[.pointer (some ⟨w.heap.size, 0, none⟩)] (run_enter Tryz.func78 (by kernel_rfl) (by kernel_rfl)) (wnP id) _ rfl (w.alloc (.cells #[.int .i64 id] 3)) (hR.below (bl1 _ _)) hf
  have hok : wnOk xs id = (noticesB xs && decide (0 ≤ idxB (wnP id) xs)) := by rw [wnOk, hig]
  have hl : wnL xs id = if wnOk xs id then xs.eraseIdx (idxB (wnP id) xs).toNat else [] := rfl
  obtain ⟨hir0, hir1⟩ := hir
  generalize idxB (wnP id) xs = i at *
  have HI := Lib.hid hidx; have HOK := Lib.hid hok; have HL := Lib.hid hl; clear hidx hok hl hig hf
  cases hv : noticesB xs
  · have hk : wnOk xs id = false := by rw [HOK.out, hv]; rfl
    have hl0 : wnL xs id = [] := by rw [HL.out, hk]; rfl
    have HK := Lib.hid hk; have HL0 := Lib.hid hl0; have HV := Lib.hid hv; clear hk hl0 hv
    go_enter Tryz.func33, Tryz.ntmps33
    go_wp2_with fail
    refine (HI.out).mono ?_
    rintro e w1 ⟨rfl, hb1⟩
    have hq1 : Below w.heap.size w w1 := bth (by repeat (first | exact Below.refl _ _ | refine Below.alloc ?_ (by first | exact Nat.le_refl _ | (simp <;> omega)) _ | refine Below.setCell ?_ (by first | exact Nat.le_refl _ | (simp <;> omega)) _)) hb1
    have HB : Below w.heap.size w w1 := hq1
    replace hR := hR.below hq1
    go_wp2_with fail
    refine (areNotices_is A c xs hn _ HV.out _ (hR.below (by repeat (first | exact Below.refl _ _ | refine Below.alloc ?_ (by first | exact Nat.le_refl _ | (simp <;> omega)) _ | refine Below.setCell ?_ (by first | exact Nat.le_refl _ | (simp <;> omega)) _)))).mono ?_
    rintro e w2 ⟨rfl, hb2⟩
    have hq2 : Below w1.heap.size w1 w2 := bth (by repeat (first | exact Below.refl _ _ | refine Below.alloc ?_ (by first | exact Nat.le_refl _ | (simp <;> omega)) _ | refine Below.setCell ?_ (by first | exact Nat.le_refl _ | (simp <;> omega)) _)) hb2
    replace HB := bth HB hq2
    replace hR := hR.below hq2
    go_wp2
    go_ret2
    rw [HL0.out, HK.out]
    exact ⟨none, 0, rfl, OwnV.nil, (bth HB (by repeat (first | exact Below.refl _ _ | refine Below.alloc ?_ (by first | exact Nat.le_refl _ | (simp <;> omega)) _ | refine Below.setCell ?_ (by first | exact Nat.le_refl _ | (simp <;> omega)) _)))⟩
  · by_cases hi : i < 0
    · have hk : wnOk xs id = false := by rw [HOK.out, hv, decide_eq_false (by omega)]; rfl
      have hl0 : wnL xs id = [] := by rw [HL.out, hk]; rfl
      have HK := Lib.hid hk; have HL0 := Lib.hid hl0; have HV := Lib.hid hv; clear hk hl0 hv
      go_enter Tryz.func33, Tryz.ntmps33
      go_wp2_with fail
      refine (HI.out).mono ?_
      rintro e w1 ⟨rfl, hb1⟩
      have hq1 : Below w.heap.size w w1 := bth (by repeat (first | exact Below.refl _ _ | refine Below.alloc ?_ (by first | exact Nat.le_refl _ | (simp <;> omega)) _ | refine Below.setCell ?_ (by first | exact Nat.le_refl _ | (simp <;> omega)) _)) hb1
      have HB : Below w.heap.size w w1 := hq1
      replace hR := hR.below hq1
      go_wp2_with fail
      refine (areNotices_is A c xs hn _ HV.out _ (hR.below (by repeat (first | exact Below.refl _ _ | refine Below.alloc ?_ (by first | exact Nat.le_refl _ | (simp <;> omega)) _ | refine Below.setCell ?_ (by first | exact Nat.le_refl _ | (simp <;> omega)) _)))).mono ?_
      rintro e w2 ⟨rfl, hb2⟩
      have hq2 : Below w1.heap.size w1 w2 := bth (by repeat (first | exact Below.refl _ _ | refine Below.alloc ?_ (by first | exact Nat.le_refl _ | (simp <;> omega)) _ | refine Below.setCell ?_ (by first | exact Nat.le_refl _ | (simp <;> omega)) _)) hb2
      replace HB := bth HB hq2
      replace hR := hR.below hq2
      go_wp2
      go_ret2
      rw [HL0.out, HK.out]
      exact ⟨none, 0, rfl, OwnV.nil, (bth HB (by repeat (first | exact Below.refl _ _ | refine Below.alloc ?_ (by first | exact Nat.le_refl _ | (simp <;> omega)) _ | refine Below.setCell ?_ (by first | exact Nat.le_refl _ | (simp <;> omega)) _)))⟩
    · obtain ⟨k, rfl⟩ : ∃ k : Nat, i = k := ⟨i.toNat, by omega⟩
      have hk : wnOk xs id = true := by rw [HOK.out, hv, decide_eq_true (by omega)]; rfl
      have hl0 : wnL xs id = xs.eraseIdx k := by rw [HL.out, hk]; simp
      have hln : (wnL xs id).length = xs.length - 1 := by rw [hl0, List.length_eraseIdx, if_pos (by omega)]
      have HK := Lib.hid hk; have HL0 := Lib.hid hl0; have HLN := Lib.hid hln; have HV := Lib.hid hv; clear hk hl0 hv hln
      go_enter Tryz.func33, Tryz.ntmps33
      go_wp2_with fail
      refine (HI.out).mono ?_
      rintro e w1 ⟨rfl, hb1⟩
      have hq1 : Below w.heap.size w w1 := bth (by repeat (first | exact Below.refl _ _ | refine Below.alloc ?_ (by first | exact Nat.le_refl _ | (simp <;> omega)) _ | refine Below.setCell ?_ (by first | exact Nat.le_refl _ | (simp <;> omega)) _)) hb1
      have HB : Below w.heap.size w w1 := hq1
      replace hR := hR.below hq1
      go_wp2_with fail
      refine (areNotices_is A c xs hn _ HV.out _ (hR.below (by repeat (first | exact Below.refl _ _ | refine Below.alloc ?_ (by first | exact Nat.le_refl _ | (simp <;> omega)) _ | refine Below.setCell ?_ (by first | exact Nat.le_refl _ | (simp <;> omega)) _)))).mono ?_
      rintro e w2 ⟨rfl, hb2⟩
      have hq2 : Below w1.heap.size w1 w2 := bth (by repeat (first | exact Below.refl _ _ | refine Below.alloc ?_ (by first | exact Nat.le_refl _ | (simp <;> omega)) _ | refine Below.setCell ?_ (by first | exact Nat.le_refl _ | (simp <;> omega)) _)) hb2
      replace HB := bth HB hq2
      replace hR := hR.below hq2
      have hs2 := hb2.size
      have hs1 := hb1.size
      simp at hs1
      obtain ⟨b, off, rfl, _, _⟩ := hR (by omega)
      have hO := OwnV.made (B := w2.heap.size) (f := Ntc.cells) (sz := 4) w2 (Nat.le_refl _) 42
      have hRR := Lib.hid (hR.alloc (.cells #[] 42))
      have HO := Lib.hid hO
      clear hO
      go_wp2_with (at_builtin; refine wpList_app rfl _ _ 47 rfl w2.heap.size 42 i0 _ 4 40 Tryz.underlying47 hi0 hz0 hz1 hz2 rfl (by decide) Ntc.cells Ntc.cells_len Ntc.cells_one _ [] rfl HO.out _ _ xs rfl hRR.out (fun h => by cases h) (by unfold maxLen; simp; omega) (by simp; omega) (by simp) ?_; intro v3 w3 hO3 hg3)
      simp only [List.nil_append] at hO3
      have hs3 := hg3.size
      simp at hs3
      obtain ⟨g, cap, cs, rfl, hBg, hB3, hcap, hcm, hcz, hF⟩ := hO3.whole Ntc.cells_len (by omega)
      have hg3' := hg3
      have HF := Lib.hid hF; have HZ := Lib.hid hcz; have HG3 := Lib.hid hg3
      clear hF hcz hg3 hg3' hO3
      go_wp2_with fail
      refine (delNtc_is xs k (by omega) hn w2.heap.size g cap cs _ hB3 hBg hcap hcm HZ.out HF.out).mono ?_
      rintro e w4 ⟨rfl, hO4, hg4⟩
      go_wp2
      go_ret2
      have hel : (xs.eraseIdx k).length = xs.length - 1 := by rw [List.length_eraseIdx, if_pos (by omega)]
      have hB3' : Below w.heap.size w w3 := (HB.alloc (by omega) _).grown HG3.out (by simp; omega) (fun q hq => by have h1 : q = w2.heap.size := (Option.some.inj (show some w2.heap.size = some q from hq)).symm; omega)
      have hB4 : Below w.heap.size w w4 := hB3'.grown hg4 (by omega) (fun q hq => by have : q = g := (Option.some.inj hq).symm; omega)
      rw [HL0.out, HK.out, hel]
      exact ⟨_, cap, rfl, hO4.base (by omega), hB4⟩
set_option maxHeartbeats 2000000 in
set_option maxRecDepth 100000 in
theorem sWithdraw_is (A : Option Addr) (c : Nat) (xs : List Ntc) (hn : xs.length ≤ 1048576) (id : Int) (w : World) (hR : Rds 4 Ntc.cells w A xs) (hcap : xs.length ≤ c) :
  Calls Tryz.prog 34 #[.slice A xs.length c, .int .i64 id] w fun e w' => ∃ A c, e = .returned (.tuple #[.slice A (wnL xs id).length c, .bool (wnOk xs id)]) ∧ OwnV w.heap.size 42 4 Ntc.cells w' (.slice A (wnL xs id).length c) (wnL xs id) ∧ Below w.heap.size w w' := by
  obtain ⟨i0, hi0, hz0, hz1, hz2⟩ := info_parts info_Ntc
  have hig := idxB_ge (wnP id) xs
  have hok : wnOk xs id = (noticesB xs && decide (0 ≤ idxB (wnP id) xs)) := by rw [wnOk, hig]
  have hl : wnL xs id = if wnOk xs id then xs.eraseIdx (idxB (wnP id) xs).toNat else [] := rfl
  have HOK := Lib.hid hok; have HL := Lib.hid hl; clear hok hl hig
  cases hv : noticesB xs
  · have hk : wnOk xs id = false := by rw [HOK.out, hv]; rfl
    have hl0 : wnL xs id = [] := by rw [HL.out, hk]; rfl
    have HK := Lib.hid hk; have HL0 := Lib.hid hl0; have HV := Lib.hid hv; clear hk hl0 hv
    go_enter Tryz.func34, Tryz.ntmps34
    go_wp2_with fail
    refine (l24Good_is A c xs hn _ HV.out _ (hR.below (by repeat (first | exact Below.refl _ _ | refine Below.alloc ?_ (by first | exact Nat.le_refl _ | (simp <;> omega)) _ | refine Below.setCell ?_ (by first | exact Nat.le_refl _ | (simp <;> omega)) _)))).mono ?_
    rintro e w1 ⟨rfl, hb1⟩
    have hq1 : Below w.heap.size w w1 := bth (by repeat (first | exact Below.refl _ _ | refine Below.alloc ?_ (by first | exact Nat.le_refl _ | (simp <;> omega)) _ | refine Below.setCell ?_ (by first | exact Nat.le_refl _ | (simp <;> omega)) _)) hb1
    have HB : Below w.heap.size w w1 := hq1
    replace hR := hR.below hq1
    go_wp2
    go_ret2
    rw [HL0.out, HK.out]
    exact ⟨_, 0, rfl, (OwnV.made _ (Nat.le_refl _) _).base HB.size, (bth HB (by repeat (first | exact Below.refl _ _ | refine Below.alloc ?_ (by first | exact Nat.le_refl _ | (simp <;> omega)) _ | refine Below.setCell ?_ (by first | exact Nat.le_refl _ | (simp <;> omega)) _)))⟩
  · have HV := Lib.hid hv; clear hv
    go_enter Tryz.func34, Tryz.ntmps34
    go_wp2_with fail
    refine (l24Good_is A c xs hn _ HV.out _ (hR.below (by repeat (first | exact Below.refl _ _ | refine Below.alloc ?_ (by first | exact Nat.le_refl _ | (simp <;> omega)) _ | refine Below.setCell ?_ (by first | exact Nat.le_refl _ | (simp <;> omega)) _)))).mono ?_
    rintro e w1 ⟨rfl, hb1⟩
    have hq1 : Below w.heap.size w w1 := bth (by repeat (first | exact Below.refl _ _ | refine Below.alloc ?_ (by first | exact Nat.le_refl _ | (simp <;> omega)) _ | refine Below.setCell ?_ (by first | exact Nat.le_refl _ | (simp <;> omega)) _)) hb1
    have HB : Below w.heap.size w w1 := hq1
    replace hR := hR.below hq1
    have hs1 := HB.size
    go_wp2
    go_loopw [6] (fun i wr => ∃ k : Nat, k ≤ xs.length ∧ i = .int .i64 k ∧ allTo (fun i => !atB (wnP id) xs i) k = true ∧ Below w1.heap.size w1 wr) (fun i _ => xs.length - (intOf i).toNat)
    case atStart => exact ⟨0, Nat.zero_le _, rfl, rfl, Below.refl _ _⟩
    case round =>
      obtain ⟨k, hk, rfl, hl, hb⟩ := hrel
      have HLL := Lib.hid hl; clear hl
      have hs2 := hb.size
      by_cases hlt : k < xs.length
      · obtain ⟨b, off, x, rfl, hbl, hx, hcx⟩ := hR.at_ hb hlt
        have f0 := hcx 0 _ rfl
        have f1 := hcx 1 _ rfl
        have f2 := hcx 2 _ rfl
        have f3 := hcx 3 _ rfl
        simp only [Nat.add_zero] at f0
        have g0 := f0 (Kin.self _)
        have g1 := f1 (Kin.self _)
        have g2 := f2 (Kin.self _)
        have g3 := f3 (Kin.self _)
        simp only [Kin.self] at g0
        simp only [Kin.self] at g1
        simp only [Kin.self] at g2
        simp only [Kin.self] at g3
        have HX := Lib.hid hx
        have HR := Lib.hid (hR.below hb)
        clear hx hcx
        cases hp : x.id == id
        · have HP := Lib.hid hp
          go_wp2
          go_roundw
          case rel => exact ⟨k + 1, by omega, by go_num, allTo_go HLL.out (by simp only [atB, HX.out]; rw [show wnP id x = false from HP.out]; rfl), hb⟩
          case measure => simp [intOf]; omega
        · have HP := Lib.hid hp
          have hfd := idxB_found hlt HLL.out (by simp only [atB, HX.out]; exact HP.out)
          have hk : wnOk xs id = true := by rw [HOK.out, HV.out, hfd, decide_eq_true (by omega)]; rfl
          have hl0 : wnL xs id = xs.eraseIdx k := by rw [HL.out, hk, hfd]; simp
          have HK := Lib.hid hk; have HL0 := Lib.hid hl0; clear hk hl0 hfd
          go_upto_region 7 with fail
          clear f0 f1 f2 f3 g0 g1 g2 g3
          have hT := Rds.take HR.out k
          have hD := Rds.drop HR.out (k + 1) (by decide)
          have hel : (xs.eraseIdx k).length = xs.length - 1 := by rw [List.length_eraseIdx, if_pos hlt]
          have hee : xs.eraseIdx k = xs.take k ++ xs.drop (k + 1) := List.eraseIdx_eq_take_drop_succ xs k
          have htl : (xs.take k).length = k := by rw [List.length_take]; omega
          have hdl : (xs.drop (k + 1)).length = xs.length - (k + 1) := List.length_drop
          have hadd : k + (xs.length - (k + 1)) = xs.length - 1 := by omega
          haveI : Nonempty (Hld (fun _ : World => True)) := ⟨⟨w, trivial⟩⟩
          have HT := Lib.hid hT; have HD := Lib.hid hD; have HEL := Lib.hid hel; have HEE := Lib.hid hee; have HTL := Lib.hid htl; have HDL := Lib.hid hdl; have HADD := Lib.hid hadd
          clear hT hD hel hee htl hdl hadd
          by_cases hck : c = k + 1
          · have hDn : Rds 4 Ntc.cells wr (some ⟨b, off, none⟩) (xs.drop (k + 1)) := by
              rw [show xs.drop (k + 1) = [] from List.drop_eq_nil_of_le (by omega)]; exact Rds.nil
            refine wp_region_mixh (fun _ => True) [([1, 2, 3, 5, 6, 7, 8], 0), ([], 4), ([], 9)] [10, 11] (by kernel_rfl) (by kernel_rfl) trivial ?_
            refine wpMix_cons fun K hK => ?_
            change wpQuiet _ _ _ _ (_ :: _ :: _ :: _ :: _ :: _ :: _ :: []) _
            repeat (go_big_quiet_step (fail))
            refine wpQuiet_nil ?_
            change wpList _ _ _ (_ :: []) _ _
            go_wp2
            refine Nrm_intro trivial (hK _ _ ?_)
            have hO := OwnV.made (B := wr.heap.size) (f := Ntc.cells) (sz := 4) wr (Nat.le_refl _) 42
            replace hO : OwnV wr.heap.size 42 4 Ntc.cells (wr.alloc (.cells #[] 42)).drew (.slice (some ⟨wr.heap.size, 0, none⟩) 0 0) ([] : List Ntc) := ⟨hO.1, hO.2⟩
            have hT1 : Rds 4 Ntc.cells (wr.alloc (.cells #[] 42)).drew (some ⟨b, off, none⟩) (xs.take k) := HT.out.alloc _
            have hD1 : Rds 4 Ntc.cells (wr.alloc (.cells #[] 42)).drew (some ⟨b, off, none⟩) (xs.drop (k + 1)) := hDn.alloc _
            have hbel : Below w.heap.size w (wr.alloc (.cells #[] 42)).drew := ((bth HB hb).alloc (by omega) _).drew
            have hsz : (wr.alloc (.cells #[] 42)).drew.heap.size = wr.heap.size + 1 := by simp
            generalize (wr.alloc (.cells #[] 42)).drew = W1 at *
            have HSZ := Lib.hid hsz; have HO := Lib.hid hO; have HT1 := Lib.hid hT1; have HD1 := Lib.hid hD1
            clear hsz hO hT1 hD1
            refine wpMix_cons fun K2 hK2 => ?_
            change wpQuiet _ _ _ _ [] _
            refine wpQuiet_nil ?_
            change wpList _ _ _ (_ :: []) _ _
            have hR4 : Rds 4 Ntc.cells W1 (some ⟨b, off, none⟩) (xs.take k) := HT1.out
            go_wp2_with (at_builtin; refine wpList_app rfl _ _ 47 rfl wr.heap.size 42 i0 _ 4 40 Tryz.underlying47 hi0 hz0 hz1 hz2 rfl (by decide) Ntc.cells Ntc.cells_len Ntc.cells_one _ [] rfl HO.out (some ⟨b, off, none⟩) _ (xs.take k) (by rw [HTL.out]; rfl) HT1.out (fun h => by cases h) (by have := HTL.out; unfold maxLen; simp; omega) (by have := HTL.out; simp; omega) (by have := HSZ.out; omega) ?_; intro v2 W2 hO2 hg2)
            simp only [List.nil_append] at hO2
            obtain ⟨A2, c2, rfl, hc2, _, _⟩ := hO2.form Ntc.cells_len
            have hzs2 := hg2.size
            have hW2 : Below w.heap.size w W2 := hbel.grown hg2 (by have := HSZ.out; omega) (fun q hq => by have h1 : q = wr.heap.size := (Option.some.inj (show some wr.heap.size = some q from hq)).symm; omega)
            have hD2 : Rds 4 Ntc.cells W2 (some ⟨b, off, none⟩) (xs.drop (k + 1)) := HD1.out.grown hg2 (fun ad had h => by
              have h1 : ad.block = wr.heap.size := Option.some.inj (show some ad.block = some wr.heap.size from h)
              have h2 : ad = ⟨b, off, none⟩ := (Option.some.inj had).symm
              rw [h2] at h1
              have h3 : b = wr.heap.size := h1
              omega)
            rw [HTL.out] at hO2 hc2 ⊢
            refine Nrm_intro trivial (hK2 _ _ ?_)
            have HO2 := Lib.hid hO2; have HD2 := Lib.hid hD2; have LO2 := Lib.hid hO2.lt
            clear hO2 hD2 hg2
            refine wpMix_cons fun K3 hK3 => ?_
            change wpQuiet _ _ _ _ [] _
            refine wpQuiet_nil ?_
            change wpList _ _ _ (_ :: []) _ _
            go_wp2_with (at_builtin; refine wpList_app rfl _ _ 47 rfl wr.heap.size 42 i0 _ 4 40 Tryz.underlying47 hi0 hz0 hz1 hz2 rfl (by decide) Ntc.cells Ntc.cells_len Ntc.cells_one (.slice A2 k c2) (xs.take k) rfl HO2.out (some ⟨b, off, none⟩) _ (xs.drop (k + 1)) (by rw [HDL.out]; rfl) HD2.out (fun h => by cases h) (by have := HTL.out; have := HDL.out; unfold maxLen; omega) (by have := HTL.out; have := HDL.out; omega) (by have := HSZ.out; omega) ?_; intro v3 W3 hO3 hg3)
            refine Nrm_intro trivial (hK3 _ _ ?_)
            obtain ⟨A3, c3, rfl, _, _, _⟩ := hO3.form Ntc.cells_len
            have hW3 : Below w.heap.size w W3 := hW2.grown hg3 (by have := HSZ.out; omega) (fun q hq => by have := (LO2.out q hq).1; omega)
            have HO3 := Lib.hid hO3; have HW3 := Lib.hid hW3
            clear hO3 hg3 hW3
            refine wpMix_last ?_
            change wpQuiet _ _ _ _ (_ :: _ :: []) _
            repeat (go_big_quiet_step (fail))
            refine wpQuiet_nil ?_
            go_wp2
            go_ret2
            have hO4 := HO3.out
            rw [← HEE.out] at hO4
            rw [HL0.out, HK.out]
            exact ⟨A3, c3, by rw [HEE.out]; rfl, hO4.base (by omega), HW3.out⟩
          refine wp_region_mixh (fun _ => True) [([1, 2, 3, 5, 6, 7, 8], 0), ([], 4), ([], 9)] [10, 11] (by kernel_rfl) (by kernel_rfl) trivial ?_
          refine wpMix_cons fun K hK => ?_
          change wpQuiet _ _ _ _ (_ :: _ :: _ :: _ :: _ :: _ :: _ :: []) _
          repeat (go_big_quiet_step (fail))
          refine wpQuiet_nil ?_
          change wpList _ _ _ (_ :: []) _ _
          go_wp2
          refine Nrm_intro trivial (hK _ _ ?_)
          have hO := OwnV.made (B := wr.heap.size) (f := Ntc.cells) (sz := 4) wr (Nat.le_refl _) 42
          replace hO : OwnV wr.heap.size 42 4 Ntc.cells (wr.alloc (.cells #[] 42)).drew (.slice (some ⟨wr.heap.size, 0, none⟩) 0 0) ([] : List Ntc) := ⟨hO.1, hO.2⟩
          have hT1 : Rds 4 Ntc.cells (wr.alloc (.cells #[] 42)).drew (some ⟨b, off, none⟩) (xs.take k) := HT.out.alloc _
          have hD1 : Rds 4 Ntc.cells (wr.alloc (.cells #[] 42)).drew (some ⟨b, off + (k + 1) * 4, none⟩) (xs.drop (k + 1)) := HD.out.alloc _
          have hbel : Below w.heap.size w (wr.alloc (.cells #[] 42)).drew := ((bth HB hb).alloc (by omega) _).drew
          have hsz : (wr.alloc (.cells #[] 42)).drew.heap.size = wr.heap.size + 1 := by simp
          generalize (wr.alloc (.cells #[] 42)).drew = W1 at *
          have HSZ := Lib.hid hsz; have HO := Lib.hid hO; have HT1 := Lib.hid hT1; have HD1 := Lib.hid hD1
          clear hsz hO hT1 hD1
          refine wpMix_cons fun K2 hK2 => ?_
          change wpQuiet _ _ _ _ [] _
          refine wpQuiet_nil ?_
          change wpList _ _ _ (_ :: []) _ _
          have hR4 : Rds 4 Ntc.cells W1 (some ⟨b, off, none⟩) (xs.take k) := HT1.out
          go_wp2_with (at_builtin; refine wpList_app rfl _ _ 47 rfl wr.heap.size 42 i0 _ 4 40 Tryz.underlying47 hi0 hz0 hz1 hz2 rfl (by decide) Ntc.cells Ntc.cells_len Ntc.cells_one _ [] rfl HO.out (some ⟨b, off, none⟩) _ (xs.take k) (by rw [HTL.out]; rfl) HT1.out (fun h => by cases h) (by have := HTL.out; unfold maxLen; simp; omega) (by have := HTL.out; simp; omega) (by have := HSZ.out; omega) ?_; intro v2 W2 hO2 hg2)
          simp only [List.nil_append] at hO2
          obtain ⟨A2, c2, rfl, hc2, _, _⟩ := hO2.form Ntc.cells_len
          have hzs2 := hg2.size
          have hW2 : Below w.heap.size w W2 := hbel.grown hg2 (by have := HSZ.out; omega) (fun q hq => by have h1 : q = wr.heap.size := (Option.some.inj (show some wr.heap.size = some q from hq)).symm; omega)
          have hD2 : Rds 4 Ntc.cells W2 (some ⟨b, off + (k + 1) * 4, none⟩) (xs.drop (k + 1)) := HD1.out.grown hg2 (fun ad had h => by
            have h1 : ad.block = wr.heap.size := Option.some.inj (show some ad.block = some wr.heap.size from h)
            have h2 : ad = ⟨b, off + (k + 1) * 4, none⟩ := (Option.some.inj had).symm
            rw [h2] at h1
            have h3 : b = wr.heap.size := h1
            omega)
          rw [HTL.out] at hO2 hc2 ⊢
          refine Nrm_intro trivial (hK2 _ _ ?_)
          have HO2 := Lib.hid hO2; have HD2 := Lib.hid hD2; have LO2 := Lib.hid hO2.lt
          clear hO2 hD2 hg2
          refine wpMix_cons fun K3 hK3 => ?_
          change wpQuiet _ _ _ _ [] _
          refine wpQuiet_nil ?_
          change wpList _ _ _ (_ :: []) _ _
          go_wp2_with (at_builtin; refine wpList_app rfl _ _ 47 rfl wr.heap.size 42 i0 _ 4 40 Tryz.underlying47 hi0 hz0 hz1 hz2 rfl (by decide) Ntc.cells Ntc.cells_len Ntc.cells_one (.slice A2 k c2) (xs.take k) rfl HO2.out (some ⟨b, off + (k + 1) * 4, none⟩) _ (xs.drop (k + 1)) (by rw [HDL.out]; rfl) HD2.out (fun h => by cases h) (by have := HTL.out; have := HDL.out; unfold maxLen; omega) (by have := HTL.out; have := HDL.out; omega) (by have := HSZ.out; omega) ?_; intro v3 W3 hO3 hg3)
          refine Nrm_intro trivial (hK3 _ _ ?_)
          obtain ⟨A3, c3, rfl, _, _, _⟩ := hO3.form Ntc.cells_len
          have hW3 : Below w.heap.size w W3 := hW2.grown hg3 (by have := HSZ.out; omega) (fun q hq => by have := (LO2.out q hq).1; omega)
          have HO3 := Lib.hid hO3; have HW3 := Lib.hid hW3
          clear hO3 hg3 hW3
          refine wpMix_last ?_
          change wpQuiet _ _ _ _ (_ :: _ :: []) _
          repeat (go_big_quiet_step (fail))
          refine wpQuiet_nil ?_
          go_wp2
          go_ret2
          have hO4 := HO3.out
          rw [← HEE.out] at hO4
          rw [HL0.out, HK.out]
          exact ⟨A3, c3, by rw [HEE.out]; rfl, hO4.base (by omega), HW3.out⟩
      · obtain rfl : k = xs.length := by omega
        have hfd := idxB_none HLL.out
        have hk : wnOk xs id = false := by rw [HOK.out, HV.out, hfd]; rfl
        have hl0 : wnL xs id = [] := by rw [HL.out, hk]; rfl
        have HK := Lib.hid hk; have HL0 := Lib.hid hl0; clear hk hl0 hfd
        go_wp2
        go_ret2
        rw [HL0.out, HK.out]
        exact ⟨_, 0, rfl, (OwnV.made _ (Nat.le_refl _) _).base (by omega), (bth HB hb).alloc (by omega) _⟩
end Go.Proofs.YtbnncgahepcfnaaGreatDoor
