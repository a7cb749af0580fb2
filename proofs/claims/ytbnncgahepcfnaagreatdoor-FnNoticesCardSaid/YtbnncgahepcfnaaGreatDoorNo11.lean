/- Ripe topics: the program's function. -/
import Derived.Test.YtbnncgahepcfnaaGreatDoorNo8
import Derived.Test.YtbnncgahepcfnaaGreatDoorNo10
import Derived.Deep.Cut
import Derived.Test.YtbnncgahepcfnaaGreatDoorNo0
import Derived.ProofKit
import Derived.Carry
import Derived.Deep.Slices
namespace Go.Proofs.YtbnncgahepcfnaaGreatDoor
open Go.RowKit Go.G9
def ripeT (n : Ntc) : S8 := n.topic.data.toList
def ripeB (day : Int) (x : Ntc) : Bool := decide (x.given + x.days ≤ day)
def rpRaw (xs : List Ntc) (day : Int) : Nat → List S8
  | 0 => []
  | k + 1 => match xs[k]? with | some x => if ripeB day x then rpRaw xs day k ++ [ripeT x] else rpRaw xs day k | none => rpRaw xs day k
def rpIns (xs : List Ntc) (day : Int) : Nat → List S8
  | 0 => []
  | k + 1 => match xs[k]? with | some x => if ripeB day x then insT (ripeT x) (rpIns xs day k) else rpIns xs day k | none => rpIns xs day k
def rpOk (xs : List Ntc) (day : Int) : Bool := noticesB xs && inB day 0 3650
def rpL (xs : List Ntc) (day : Int) : List S8 := if rpOk xs day then rpIns xs day xs.length else []
theorem rpRaw_len (xs : List Ntc) (day : Int) : ∀ k, (rpRaw xs day k).length ≤ k
  | 0 => Nat.le_refl _
  | k + 1 => by
    have := rpRaw_len xs day k
    unfold rpRaw
    split
    · split <;> simp <;> omega
    · omega
theorem rpIns_len (xs : List Ntc) (day : Int) : ∀ k, (rpIns xs day k).length ≤ k
  | 0 => Nat.le_refl _
  | k + 1 => by
    have := rpIns_len xs day k
    unfold rpIns
    split
    · split
      · have := insT_len (ripeT ‹Ntc›) (rpIns xs day k); omega
      · omega
    · omega
theorem rpIns_pw (xs : List Ntc) (day : Int) : ∀ k, (rpIns xs day k).Pairwise (· < ·)
  | 0 => by simp [rpIns]
  | k + 1 => by
    have := rpIns_pw xs day k
    unfold rpIns
    split
    · split
      · exact insT_pw _ _ this
      · exact this
    · exact this
theorem rp_mem (xs : List Ntc) (day : Int) : ∀ k x, x ∈ rpIns xs day k ↔ x ∈ rpRaw xs day k
  | 0, x => by simp [rpIns, rpRaw]
  | k + 1, x => by
    have ih := rp_mem xs day k x
    unfold rpIns rpRaw
    split
    · split
      · rw [insT_mem, List.mem_append, ih, List.mem_singleton]
        constructor
        · rintro (h | h)
          · exact .inr h
          · exact .inl h
        · rintro (h | h)
          · exact .inr h
          · exact .inl h
      · exact ih
    · exact ih
theorem rp_sorted (xs : List Ntc) (day : Int) (k : Nat) : Lib.compact ((rpRaw xs day k).mergeSort fun x y => decide (x ≤ y)) = rpIns xs day k := comp_sort (rpIns_pw xs day k) (rp_mem xs day k)
theorem str_of (s : ByteArray) : ∃ l : S8, s = ⟨l.toArray⟩ := ⟨s.data.toList, by cases s; simp⟩
theorem info_str : (Tryz.prog.info? 9).map (fun i => (i.zero, i.size, i.bytes)) = some (some (.string ⟨#[]⟩), 1, 16) := by kernel_rfl
set_option maxHeartbeats 2000000 in
set_option maxRecDepth 100000 in
theorem iRipe_is (A : Option Addr) (c : Nat) (xs : List Ntc) (hn : xs.length ≤ 1048576) (day : Int) (w : World) (hR : Rds 4 Ntc.cells w A xs) :
  Calls Tryz.prog 29 #[.slice A xs.length c, .int .i64 day] w fun e w' => ∃ A c, e = .returned (.tuple #[.slice A (rpL xs day).length c, .bool (rpOk xs day)]) ∧ OwnV w.heap.size 9 1 sC w' (.slice A (rpL xs day).length c) (rpL xs day) ∧ Below w.heap.size w w' := by
  obtain ⟨i0, hi, hz0, hz1, hz2⟩ := info_parts info_str
  cases hr : noticesB xs
  · have h1 : rpOk xs day = false := by unfold rpOk; rw [hr]; rfl
    have h2 : rpL xs day = [] := by unfold rpL; rw [h1]; rfl
    rw [h1, h2]
    clear h1 h2
    go_enter Tryz.func29, Tryz.ntmps29
    go_wp2_with fail
    refine (areNotices_is A c xs hn _ hr _ hR).mono ?_
    rintro e w1 ⟨rfl, hb1⟩
    go_wp2
    go_ret2
    exact ⟨none, 0, rfl, OwnV.nil, hb1⟩
  cases hd : inB day 0 3650
  · have h1 : rpOk xs day = false := by unfold rpOk; rw [hr, hd]; rfl
    have h2 : rpL xs day = [] := by unfold rpL; rw [h1]; rfl
    rw [h1, h2]
    clear h1 h2
    go_enter Tryz.func29, Tryz.ntmps29
    go_wp2_with fail
    refine (areNotices_is A c xs hn _ hr _ hR).mono ?_
    rintro e w1 ⟨rfl, hb1⟩
    go_wp2_with (go_at_call 72; refine (isDay_is day _ hd _).mono ?_; rintro e w' ⟨rfl, rfl⟩)
    go_ret2
    exact ⟨none, 0, rfl, OwnV.nil, hb1⟩
  · have h1 : rpOk xs day = true := by unfold rpOk; rw [hr, hd]; rfl
    have h2 : rpL xs day = rpIns xs day xs.length := by unfold rpL; rw [h1]; rfl
    have H1 := Lib.hid h1; have H2 := Lib.hid h2; clear h1 h2
    have hl := noticesB_len hr
    have hdb := inB_iff.1 hd
    go_enter Tryz.func29, Tryz.ntmps29
    go_wp2_with fail
    refine (areNotices_is A c xs hn _ hr _ hR).mono ?_
    rintro e w1 ⟨rfl, hb1⟩
    have hR1 := hR.below hb1
    go_wp2_with fail
    refine (isDay_is day _ hd _).mono ?_
    rintro e w0 ⟨rfl, h0⟩
    rw [h0]
    clear h0 w0
    go_wp2
    go_loopw [6, 20] (fun v i wr => ∃ k : Nat, k ≤ xs.length ∧ i = .int .i64 k ∧ (∃ g c, v = .slice (some ⟨g, 0, none⟩) (rpRaw xs day k).length c) ∧ OwnV w1.heap.size 9 1 sC wr v (rpRaw xs day k) ∧ Below w1.heap.size w1 wr) (fun _ i _ => xs.length - (intOf i).toNat)
    case atStart => exact ⟨0, Nat.zero_le _, rfl, ⟨_, _, rfl⟩, OwnV.made w1 (Nat.le_refl _) _, bl1 _ _⟩
    case round =>
      obtain ⟨k, hk, rfl, ⟨gv, cv, rfl⟩, hO, hb⟩ := hrel
      by_cases hlt : k < xs.length
      · obtain ⟨b, off, x, rfl, hbl, hx, hcx⟩ := hR1.at_ hb hlt
        have hv := noticesB_at hr hx
        obtain ⟨id, s, g, d, hs⟩ := x
        obtain ⟨l, rfl⟩ := str_of s
        obtain ⟨t1, t2, t3, t4, _, _⟩ := noticeB_bdN hv
        have f0 := hcx 0 _ rfl
        have f1 := hcx 1 _ rfl
        have f2 := hcx 2 _ rfl
        have f3 := hcx 3 _ rfl
        simp only [Nat.add_zero] at f0
        have g0 := f0 (Kin.self _)
        have g1 := f1 (Kin.self _)
        have g2 := f2 (Kin.self _)
        have g3 := f3 (Kin.self _)
        simp only [Kin.self] at g0
        simp only [Kin.self] at g1
        simp only [Kin.self] at g2
        simp only [Kin.self] at g3
        have hstep : rpRaw xs day (k + 1) = if ripeB day ⟨id, ⟨l.toArray⟩, g, d, hs⟩ then rpRaw xs day k ++ [l] else rpRaw xs day k := by rw [rpRaw, hx]; rfl
        have HS := Lib.hid hstep; clear hstep hx hcx hv
        have hml := rpRaw_len xs day k
        have z1 := hb.size
        by_cases hyn : g + d ≤ day
        · have hp : ripeB day ⟨id, ⟨l.toArray⟩, g, d, hs⟩ = true := decide_eq_true hyn
          have HP := Lib.hid hp; clear hp
          have hOb := hO.alloc (.cells #[.int .i64 id, .string ⟨l.toArray⟩, .int .i64 g, .int .i64 d] 42)
          have hR2 : Rds 1 sC ((wr.alloc (.cells #[.int .i64 id, .string ⟨l.toArray⟩, .int .i64 g, .int .i64 d] 42)).alloc (.cells #[.string ⟨l.toArray⟩] 9)) (some ⟨wr.heap.size + 1, 0, none⟩) [l] := by
            have h := Rds.one (f := sC) (sz := 1) (w := wr.alloc (.cells #[.int .i64 id, .string ⟨l.toArray⟩, .int .i64 g, .int .i64 d] 42)) l 9
            simpa [sC] using h
          have HO := Lib.hid (hOb.alloc (.cells #[.string ⟨l.toArray⟩] 9)); have HR2 := Lib.hid hR2
          clear hO hOb hR2
          go_wp2_with ((at_builtin; refine wpList_app rfl _ _ 51 rfl w1.heap.size 9 i0 _ 1 16 Tryz.underlying51 hi hz0 hz1 hz2 rfl (by decide) sC sC_len sC_one _ (rpRaw xs day k) rfl HO.out (some ⟨wr.heap.size + 1, 0, none⟩) 1 [l] rfl HR2.out (fun h => by cases h) (by unfold maxLen; simp; omega) (by simp; omega) (by simp; omega) ?_; intro v' w4 hO4 hg4))
          have hB4 : Below w1.heap.size w1 w4 := ((hb.alloc (by omega) _).alloc (by simp; omega) _).grown hg4 (by simp; omega) (fun q hq => (HO.out.lt q hq).1)
          go_roundw
          case rel =>
            have e : rpRaw xs day (k + 1) = rpRaw xs day k ++ [l] := by rw [HS.out, if_pos HP.out]
            obtain ⟨g', c', _, rfl, _⟩ := hO4.whole sC_len (by simp)
            exact ⟨k + 1, by omega, by go_num, ⟨g', c', by rw [e]⟩, by rw [e]; exact hO4, hB4⟩
          case measure => simp [intOf]; omega
        · have hp : ripeB day ⟨id, ⟨l.toArray⟩, g, d, hs⟩ = false := decide_eq_false hyn
          have HP := Lib.hid hp; clear hp
          go_wp2
          go_roundw
          case rel =>
            have e : rpRaw xs day (k + 1) = rpRaw xs day k := by rw [HS.out, HP.out]; rfl
            exact ⟨k + 1, by omega, by go_num, ⟨gv, cv, by rw [e]⟩, by rw [e]; exact hO.alloc _, hb.alloc (by omega) _⟩
          case measure => simp [intOf]; omega
      · obtain rfl : k = xs.length := by omega
        have hml := rpRaw_len xs day xs.length
        have hcl := compact_len ((rpRaw xs day xs.length).mergeSort fun x y => decide (x ≤ y))
        have hsl : ((rpRaw xs day xs.length).mergeSort fun x y => decide (x ≤ y)).length = (rpRaw xs day xs.length).length := List.length_mergeSort _
        have h1 := sortS_is w1.heap.size gv cv (rpRaw xs day xs.length) (by omega) wr hO
        have hlo := (hO.lt gv rfl).1
        have hco := fun W h => compactS_is w1.heap.size gv cv ((rpRaw xs day xs.length).mergeSort fun x y => decide (x ≤ y)) (by omega) W h
        rw [hsl, rp_sorted] at hco
        have HS1 := Lib.hid h1; have HC1 := Lib.hid hco
        clear h1 hco hcl hsl
        go_wp2_with fail
        refine HS1.out.mono ?_
        rintro e w2 ⟨rfl, hO2, hg2⟩
        go_wp2_with fail
        refine (HC1.out _ hO2).mono ?_
        rintro e w3 ⟨rfl, hO3, hg3⟩
        go_wp2
        go_ret2
        rw [H2.out, H1.out]
        exact ⟨some ⟨gv, 0, none⟩, cv, rfl, hO3.base hb1.size, bth hb1 ((hb.grown hg2 (by have := hb.size; omega) (fun q hq => by cases hq; exact hlo)).grown hg3 (by have := hb.size; have := hg2.size; omega) (fun q hq => by cases hq; exact hlo))⟩
end Go.Proofs.YtbnncgahepcfnaaGreatDoor
/- The law of notices: plain law. -/
namespace Go.Proofs.YtbnncgahepcfnaaGreatDoor
open Go.RowKit Go.G9
theorem fmt_le (xs : List Ntc) : ∀ (n k : Nat) (x : Ntc), k < n → xs[k]? = some x → x.given + x.days ≤ fmt xs n
  | 0, k, x, h, _ => absurd h (by omega)
  | n + 1, k, x, h, hx => by
    by_cases hk : k = n
    · subst hk
      unfold fmt; rw [hx]
      exact Int.le_max_right _ _
    · have := fmt_le xs n k x (by omega) hx
      unfold fmt
      split
      · exact Int.le_trans this (Int.le_max_left _ _)
      · exact this
theorem rpRaw_has (xs : List Ntc) (day : Int) : ∀ (n k : Nat) (x : Ntc), k < n → xs[k]? = some x → x.given + x.days ≤ day → ripeT x ∈ rpRaw xs day n
  | 0, k, x, h, _, _ => absurd h (by omega)
  | n + 1, k, x, h, hx, hd => by
    by_cases hk : k = n
    · subst hk
      unfold rpRaw; rw [hx]
      simp [ripeB, hd]
    · have := rpRaw_has xs day n k x (by omega) hx hd
      unfold rpRaw
      split
      · split
        · exact List.mem_append_left _ this
        · exact this
      · exact this
/-- On the first meeting's day every topic is ripe. -/
theorem ripe_all {xs : List Ntc} {day : Int} (hv : noticesB xs = true) (hd : inB day 0 3650 = true) (hf : fmt xs xs.length = day) {k : Nat} {x : Ntc} (hx : xs[k]? = some x) : ripeT x ∈ rpL xs day := by
  have hk := (List.getElem?_eq_some_iff.1 hx).1
  unfold rpL rpOk
  rw [hv, hd, Bool.and_true, if_pos rfl]
  exact (rp_mem xs day _ _).2 (rpRaw_has xs day _ k x hk hx (hf ▸ fmt_le xs _ k x hk hx))
theorem fmt_zero (xs : List Ntc) : fmt xs 0 = 0 := rfl
theorem fmt_succ {xs : List Ntc} {k : Nat} {x : Ntc} (hx : xs[k]? = some x) : fmt xs (k + 1) = max (fmt xs k) (x.given + x.days) := by rw [fmt, hx]
/-- How late the notices counted so far are: one is on the day as soon as the greatest is. -/
theorem late_yes {xs : List Ntc} {k : Nat} {day : Int} {L : Nat} : fmt xs (k + 1) = day → 0 < day → 0 < L + 1 := fun _ _ => by omega
theorem late_no {xs : List Ntc} {k : Nat} {x : Ntc} {day : Int} {L : Nat} (hx : xs[k]? = some x) (hne : x.given + x.days ≠ day) (h : fmt xs k = day → 0 < day → 0 < L) : fmt xs (k + 1) = day → 0 < day → 0 < L := by
  rw [fmt_succ hx]
  intro h1 h2
  refine h ?_ h2
  rcases Int.le_total (fmt xs k) (x.given + x.days) with hl | hl
  · rw [Int.max_eq_right hl] at h1; exact absurd h1 hne
  · rw [Int.max_eq_left hl] at h1; exact h1
theorem fmOut_yes {xs : List Ntc} {day : Int} (h : fmOut xs = .tuple #[.int .i64 day, .bool true]) : noticesB xs = true ∧ inB day 0 3650 = true ∧ fmt xs xs.length = day := by
  unfold fmOut dayOr at h
  split at h
  · rename_i hv
    split at h
    · rename_i hd
      have h2 : fmt xs xs.length = day := by simpa using h
      exact ⟨hv, h2 ▸ hd, h2⟩
    · simp at h
  · simp at h
end Go.Proofs.YtbnncgahepcfnaaGreatDoor
/- From a law's walk to its row: the arguments opened (what a slice, a struct of the input reads as), the row's last step, for every law of this program. -/
namespace Go.G9
open Go.ChangeShapes Go.WideShapes Go.ChangeAt Go.RowKit Go.Deep
section
variable {H : Type} {enc : TypeId × Value → H} {P : Program}
theorem trodAll_below (hl : laidOutB P = true) {W W' : World} (hb : Below W.heap.size W W') : ∀ {ts : List TypeId} {vs : List Value} {ds : List (DataW H)} {ps : List MemPlace},
    (∀ t ∈ ts, P.readableRec t = true ∧ t < P.types.size) → (∀ x ∈ ps, x.block < W.heap.size) → DataW.TrodAll enc P W 0 (fun _ => true) true ts vs ds ps →
    DataW.TrodAll enc P W' 0 (fun b => decide (b < W.heap.size)) true ts vs ds ps
  | [], [], [], _, _, _, h => h
  | t :: ts, v :: vs, d :: ds, ps, ht, hlt, h => by
    obtain ⟨p, q, h1, h2, e⟩ := h
    have ht0 := ht t (List.mem_cons.2 (Or.inl rfl))
    exact ⟨p, q, Below.trod hl ht0.1 ht0.2 h1 hb (fun x hx => hlt x (by rw [e]; exact List.mem_append_left _ hx)),
      trodAll_below hl hb (fun t' h' => ht t' (List.mem_cons.2 (Or.inr h'))) (fun x hx => hlt x (by rw [e]; exact List.mem_append_right _ hx)) h2, e⟩
  | [], [], _ :: _, _, _, _, h => h.elim
  | [], _ :: _, _, _, _, _, h => h.elim
  | _ :: _, [], _, _, _, _, h => h.elim
  | _ :: _, _ :: _, [], _, _, _, h => h.elim
theorem trodAll_len {w : World} {base : Nat} {sp : Nat → Bool} {hd : Bool} : ∀ {ts : List TypeId} {vs : List Value} {ds : List (DataW H)} {ps : List MemPlace}, DataW.TrodAll enc P w base sp hd ts vs ds ps → ds.length = ts.length
  | [], [], [], _, _ => rfl
  | _ :: _, _ :: _, _ :: _, _, h => by obtain ⟨_, _, _, h2, _⟩ := h; simp [trodAll_len h2]
  | [], [], _ :: _, _, h => h.elim
  | [], _ :: _, _, _, h => h.elim
  | _ :: _, [], _, _, h => h.elim
  | _ :: _, _ :: _, [], _, h => h.elim

/-- THE ROW'S LAST STEP, FOR A LAW: it answers true and nothing that was there has turned. -/
theorem law_post {fn : Func} {s : ChangeSpec} {W W' : World} {args : Array Value} {ds gs : List (DataW H)} {before : List MemPlace} {rt : TypeId}
    (hlaid : laidOutB P = true) (hread : ∀ t ∈ fn.params.toList, P.readableRec t = true ∧ t < P.types.size) (hrt : fn.resultTypes = #[rt]) (hbool : P.underlying rt = some .bool) (hvars : s.vars = [])
    (hspec : ∀ l : List (DataW H), l.length = fn.params.toList.length → s.fn H (l ++ []) = { results := [.lit (.bool true)], args := l })
    (hW : DataW.Whole enc P fn.params.toList s.vars false W args.toList ds gs before) (hb : Below W.heap.size W W') : s.post enc P fn false true false false W args (.bool true) W' := by
  have hlt := hW.lt
  have hW' := hW
  obtain ⟨p, q, hA, hV, rfl, hfz, hnd⟩ := hW
  rw [hvars] at hV
  obtain ⟨rfl, rfl⟩ := trodVars_none hV
  have hsp := hspec ds (trodAll_len hA)
  refine ⟨ds, [], p ++ [], [], p, [], hW', ?_, ?_, ?_, hb.frame _, fun h => by cases h⟩
  · rw [hsp, hrt]; exact trodAll_mk1 (shut_bool hbool true)
  · rw [hsp]; exact trodAll_below hlaid hb hread (fun x hx => hlt x (by simpa using hx)) hA
  · rw [hsp, hvars]; rfl

/-- FROM THE WALK TO THE LIFTED CLAIM. -/
theorem law_lift {C : Checked} {os : Os} {f : FuncId} {fn : Func} {s : ChangeSpec} {rt : TypeId} (own : ownKnob C.prog.godebug = none) (started : os.Started) (noInit : C.prog.inits.idxOf? f = none) (hfn : C.prog.funcs[f]? = some fn)
    (witness : ∃ (w : World) (tape : Tape) (i : Input), w.os = os ∧ (w.forCall tape i).Shaped C.prog ∧ i.vars = [] ∧ Input.okWide C.prog (w.forCall tape i) .any w.heap.size f i ∧
      s.pre6 enc C.prog fn [] false (w.forCall tape i).memory i.args ∧ ({} : Assume).holds C.prog (lone (Frame.enter C.prog f i.args .normal) [] (w.forCall tape i)))
    (hlaid : laidOutB C.prog = true) (hread : ∀ t ∈ fn.params.toList, C.prog.readableRec t = true ∧ t < C.prog.types.size) (hrt : fn.resultTypes = #[rt]) (hbool : C.prog.underlying rt = some .bool) (hvars : s.vars = [])
    (hspec : ∀ l : List (DataW H), l.length = fn.params.toList.length → s.fn H (l ++ []) = { results := [.lit (.bool true)], args := l })
    (walk : ∀ (W : World) (base : Nat) (args : Array Value) (ds : List (DataW H)) (p : List MemPlace), (∀ (j : Nat) t v, fn.params[j]? = some t → args[j]? = some v → Value.okWide C.prog W .any base t v) →
      DataW.TrodAll enc C.prog W 0 (fun _ => true) true fn.params.toList args.toList ds p → Calls C.prog f args W fun e W' => e = .returned (.bool true) ∧ Below W.heap.size W W') :
    ReturnsInHanded {} C os f .any (s.pre6 enc C.prog fn [] false) (s.post enc C.prog fn false true false false) := by
  refine returnsInHanded_of_change (C := C) own started noInit hfn witness ?_
  intro W base args ds gs before hval hW _ _
  have hW' := hW
  obtain ⟨p, q, hA, _, _, _, _⟩ := hW
  exact (walk W base args ds p hval hA).mono fun e W' ⟨he, hb⟩ => ⟨_, he, law_post hlaid hread hrt hbool hvars hspec hW' hb⟩

variable {w : World} {base : Nat} {sp : Nat → Bool} {hd : Bool}
/-- A field of a struct that reads. -/
theorem rd_at {fs : Array Field} {xs : List (DataW H × List MemPlace)} {n : Nat} {cs : List Value} (hlen : xs.length = fs.size)
    (hg : ∀ (i : Nat) (f : Field), fs[i]? = some f → DataW.trod enc P w base sp hd n f.type ((cs.drop f.offset).take (P.cellsOf f.type)) = xs[i]?) (i : Nat) (f : Field) (hf : fs[i]? = some f) :
    ∃ y, DataW.trod enc P w base sp hd n f.type ((cs.drop f.offset).take (P.cellsOf f.type)) = some y := by
  have hi : i < xs.length := by have := (Array.getElem?_eq_some_iff.1 hf).1; omega
  exact ⟨xs[i], (hg i f hf).trans (List.getElem?_eq_getElem hi)⟩
theorem rd_sub_at {k : Nat} {fs : Array Field} {xs : List (DataW H × List MemPlace)} {n : Nat} {cs : List Value} (hlen : xs.length = fs.size)
    (hg : ∀ (i : Nat) (f : Field), fs[i]? = some f → DataW.trod enc P w base sp hd n f.type ((cs.drop f.offset).take (P.cellsOf f.type)) = xs[i]?) (i : Nat) (f : Field) (hf : fs[i]? = some f)
    (hk : P.cellsOf f.type = k) : ∃ y, DataW.trod enc P w base sp hd n f.type ((cs.drop f.offset).take k) = some y := by
  obtain ⟨y, h⟩ := rd_at hlen hg i f hf
  rw [hk] at h
  exact ⟨y, h⟩
theorem rd_int_at {k : IntKind} {fs : Array Field} {xs : List (DataW H × List MemPlace)} {n : Nat} {cs : List Value} (hlen : xs.length = fs.size)
    (hg : ∀ (i : Nat) (f : Field), fs[i]? = some f → DataW.trod enc P w base sp hd n f.type ((cs.drop f.offset).take (P.cellsOf f.type)) = xs[i]?) (i : Nat) (f : Field) (hf : fs[i]? = some f)
    (hu : P.underlying f.type = some (.int k)) (h1 : P.cellsOf f.type = 1) : ∃ m : Int, (cs.drop f.offset).take 1 = [.int k m] := by
  obtain ⟨_, h⟩ := rd_at hlen hg i f hf
  rw [h1] at h
  obtain ⟨m, e, _, _⟩ := DataW.trod_int hu h
  exact ⟨m, e⟩
theorem rd_string_at {fs : Array Field} {xs : List (DataW H × List MemPlace)} {n : Nat} {cs : List Value} (hlen : xs.length = fs.size)
    (hg : ∀ (i : Nat) (f : Field), fs[i]? = some f → DataW.trod enc P w base sp hd n f.type ((cs.drop f.offset).take (P.cellsOf f.type)) = xs[i]?) (i : Nat) (f : Field) (hf : fs[i]? = some f)
    (hu : P.underlying f.type = some .string) (h1 : P.cellsOf f.type = 1) : ∃ s : ByteArray, (cs.drop f.offset).take 1 = [.string s] ∧ s.size ≤ maxLen := by
  obtain ⟨_, h⟩ := rd_at hlen hg i f hf
  rw [h1] at h
  obtain ⟨m, e, _, hm⟩ := DataW.trod_string hu h
  exact ⟨m, e, hm⟩
theorem rd_bool_at {fs : Array Field} {xs : List (DataW H × List MemPlace)} {n : Nat} {cs : List Value} (hlen : xs.length = fs.size)
    (hg : ∀ (i : Nat) (f : Field), fs[i]? = some f → DataW.trod enc P w base sp hd n f.type ((cs.drop f.offset).take (P.cellsOf f.type)) = xs[i]?) (i : Nat) (f : Field) (hf : fs[i]? = some f)
    (hu : P.underlying f.type = some .bool) (h1 : P.cellsOf f.type = 1) : ∃ b : Bool, (cs.drop f.offset).take 1 = [.bool b] := by
  obtain ⟨_, h⟩ := rd_at hlen hg i f hf
  rw [h1] at h
  obtain ⟨m, e, _⟩ := DataW.trod_bool hu h
  exact ⟨m, e⟩
theorem spot_of_cell {w : World} {a : Addr} {v : Value} (h : w.cell? a = some v) : a.spot = none := by
  unfold World.cell? at h
  split at h
  · split at h
    · cases h
    · rename_i hs; simpa using hs
  · cases h
/-- A slice that reads, each element as f of a thing of type T; a nil slice is told. -/
theorem rd_slicen {T : Type} (f : T → List Value) (sz : Nat) (hsz : 0 < sz) {t e : TypeId} (ht : P.underlying t = some (.slice e)) (hC : P.cellsOf e = sz)
    (helem : ∀ fuel cs x, DataW.trod enc P w base sp hd fuel e cs = some x → ∃ y : T, cs = f y) {fuel : Nat} {cs : List Value} {x : DataW H × List MemPlace} (h : DataW.trod enc P w base sp hd fuel t cs = some x) :
    ∃ (A : Option Addr) (c : Nat) (xs : List T), cs = [.slice A xs.length c] ∧ xs.length ≤ maxLen ∧ Rds sz f w A xs ∧ (A = none → xs = [] ∧ c = 0) := by
  rcases open_slice ht h with ⟨rfl, _⟩ | ⟨a, len, cap, m, n, D, Pl, rfl, _, hlc, hcm, hm, _, hi⟩
  · exact ⟨none, 0, [], rfl, by simp, Rds.nil, fun _ => ⟨rfl, rfl⟩⟩
  · have hle : len ≤ m := by rw [hm]; split <;> omega
    have hex : ∀ i, i < len → ∃ y : T, w.cells? base (a.add (i * sz)) sz = some (f y) := fun i hil => by
      obtain ⟨cs', hcs, htr⟩ := hi i (by omega)
      obtain ⟨y, rfl⟩ := helem _ _ _ htr
      exact ⟨y, by rw [hC] at hcs; exact hcs⟩
    have hall : ∀ k, k ≤ len → ∃ l : List T, l.length = k ∧ ∀ i y, l[i]? = some y → w.cells? base (a.add (i * sz)) sz = some (f y) := by
      intro k
      induction k with
      | zero => intro _; exact ⟨[], rfl, by simp⟩
      | succ k ih =>
        intro hk
        obtain ⟨l, hll, hlc⟩ := ih (by omega)
        obtain ⟨y, hy⟩ := hex k (by omega)
        refine ⟨l ++ [y], by simp [hll], fun i z hz => ?_⟩
        rw [List.getElem?_append] at hz
        split at hz
        · exact hlc i z hz
        · have h0 : i = k := by have := (List.getElem?_eq_some_iff.1 hz).1; simp at this; omega
          subst h0
          rw [hll] at hz; simp at hz; subst hz; exact hy
    obtain ⟨l, hll, hcell⟩ := hall len (Nat.le_refl _)
    refine ⟨some a, cap, l, by rw [hll], by omega, fun hn => ?_, fun h => by cases h⟩
    have at0 : ∀ i y, l[i]? = some y → ∀ j u, (f y)[j]? = some u → w.cell? ((a.add (i * sz)).add j) = some u := fun i y hy j u hu => by
      obtain ⟨_, hcl, hat⟩ := World.cells?_some (hcell i y hy)
      have hj : j < sz := by rw [← hcl]; exact (List.getElem?_eq_some_iff.1 hu).1
      rw [hat j hj]; exact hu
    obtain ⟨y0, hy0⟩ : ∃ y, l[0]? = some y := ⟨_, List.getElem?_eq_getElem hn⟩
    obtain ⟨_, hcl0, _⟩ := World.cells?_some (hcell 0 y0 hy0)
    have hu0 : (f y0)[0]? = some ((f y0)[0]'(by omega)) := List.getElem?_eq_getElem _
    have c0 := at0 0 y0 hy0 0 _ hu0
    rw [Nat.zero_mul, show (a.add 0).add 0 = a from by simp [Addr.add]] at c0
    have hs := spot_of_cell c0
    obtain ⟨b, off, spot⟩ := a
    simp only at hs; subst hs
    refine ⟨b, off, rfl, World.block_lt_of_cell? w _ c0, fun i x hx j u hu => ?_⟩
    have := at0 i x hx j u hu
    rw [add_add] at this
    rw [← this]
    congr 1
    unfold Addr.add
    split <;> simp_all [Nat.add_assoc]
theorem rd_slice {T : Type} (f : T → List Value) (sz : Nat) (hsz : 0 < sz) {t e : TypeId} (ht : P.underlying t = some (.slice e)) (hC : P.cellsOf e = sz)
    (helem : ∀ fuel cs x, DataW.trod enc P w base sp hd fuel e cs = some x → ∃ y : T, cs = f y) {fuel : Nat} {cs : List Value} {x : DataW H × List MemPlace} (h : DataW.trod enc P w base sp hd fuel t cs = some x) :
    ∃ (A : Option Addr) (c : Nat) (xs : List T), cs = [.slice A xs.length c] ∧ xs.length ≤ maxLen ∧ Rds sz f w A xs := by
  obtain ⟨A, c, xs, h1, h2, h3, _⟩ := rd_slicen f sz hsz ht hC helem h
  exact ⟨A, c, xs, h1, h2, h3⟩
theorem agg_of_list {cs : Array Value} {l : List Value} (h : cs.toList = l) : Value.agg cs = .agg l.toArray := by rw [← h]
end
end Go.G9
