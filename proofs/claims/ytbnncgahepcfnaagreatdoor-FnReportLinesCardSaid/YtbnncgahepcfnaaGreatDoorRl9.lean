/- From a law's walk to its row: the arguments opened (what a slice, a struct of the input reads as), the row's last step, for every law of this program. -/
import Derived.Test.YtbnncgahepcfnaaGreatDoorRl0
import Derived.ProofKit
import Derived.Carry
import Derived.Deep.Slices
import Derived.Test.YtbnncgahepcfnaaGreatDoorRl6
import Derived.Test.YtbnncgahepcfnaaGreatDoorRl3
import Derived.Test.YtbnncgahepcfnaaGreatDoorRl5
import Derived.IntWalk
import Derived.Laws.Bits64
import Derived.Laws.Bits64b
import Derived.Deep.Cut
namespace Go.G9
open Go.ChangeShapes Go.WideShapes Go.ChangeAt Go.RowKit Go.Deep
section
variable {H : Type} {enc : TypeId × Value → H} {P : Program}
theorem trodAll_below (hl : laidOutB P = true) {W W' : World} (hb : Below W.heap.size W W') : ∀ {ts : List TypeId} {vs : List Value} {ds : List (DataW H)} {ps : List MemPlace},
    (∀ t ∈ ts, P.readableRec t = true ∧ t < P.types.size) → (∀ x ∈ ps, x.block < W.heap.size) → DataW.TrodAll enc P W 0 (fun _ => true) true ts vs ds ps →
    DataW.TrodAll enc P W' 0 (fun b => decide (b < W.heap.size)) true ts vs ds ps
  | [], [], [], _, _, _, h => h
  | t :: ts, v :: vs, d :: ds, ps, ht, hlt, h => by
    obtain ⟨p, q, h1, h2, e⟩ := h
    have ht0 := ht t (List.mem_cons.2 (Or.inl rfl))
    exact ⟨p, q, Below.trod hl ht0.1 ht0.2 h1 hb (fun x hx => hlt x (by rw [e]; exact List.mem_append_left _ hx)),
      trodAll_below hl hb (fun t' h' => ht t' (List.mem_cons.2 (Or.inr h'))) (fun x hx => hlt x (by rw [e]; exact List.mem_append_right _ hx)) h2, e⟩
  | [], [], _ :: _, _, _, _, h => h.elim
  | [], _ :: _, _, _, _, _, h => h.elim
  | _ :: _, [], _, _, _, _, h => h.elim
  | _ :: _, _ :: _, [], _, _, _, h => h.elim
theorem trodAll_len {w : World} {base : Nat} {sp : Nat → Bool} {hd : Bool} : ∀ {ts : List TypeId} {vs : List Value} {ds : List (DataW H)} {ps : List MemPlace}, DataW.TrodAll enc P w base sp hd ts vs ds ps → ds.length = ts.length
  | [], [], [], _, _ => rfl
  | _ :: _, _ :: _, _ :: _, _, h => by obtain ⟨_, _, _, h2, _⟩ := h; simp [trodAll_len h2]
  | [], [], _ :: _, _, h => h.elim
  | [], _ :: _, _, _, h => h.elim
  | _ :: _, [], _, _, h => h.elim
  | _ :: _, _ :: _, [], _, h => h.elim

/-- THE ROW'S LAST STEP, FOR A LAW: it answers true and nothing that was there has turned. -/
theorem law_post {fn : Func} {s : ChangeSpec} {W W' : World} {args : Array Value} {ds gs : List (DataW H)} {before : List MemPlace} {rt : TypeId}
    (hlaid : laidOutB P = true) (hread : ∀ t ∈ fn.params.toList, P.readableRec t = true ∧ t < P.types.size) (hrt : fn.resultTypes = #[rt]) (hbool : P.underlying rt = some .bool) (hvars : s.vars = [])
    (hspec : ∀ l : List (DataW H), l.length = fn.params.toList.length → s.fn H (l ++ []) = { results := [.lit (.bool true)], args := l })
    (hW : DataW.Whole enc P fn.params.toList s.vars false W args.toList ds gs before) (hb : Below W.heap.size W W') : s.post enc P fn false true false false W args (.bool true) W' := by
  have hlt := hW.lt
  have hW' := hW
  obtain ⟨p, q, hA, hV, rfl, hfz, hnd⟩ := hW
  rw [hvars] at hV
  obtain ⟨rfl, rfl⟩ := trodVars_none hV
  have hsp := hspec ds (trodAll_len hA)
  refine ⟨ds, [], p ++ [], [], p, [], hW', ?_, ?_, ?_, hb.frame _, fun h => by cases h⟩
  · rw [hsp, hrt]; exact trodAll_mk1 (shut_bool hbool true)
  · rw [hsp]; exact trodAll_below hlaid hb hread (fun x hx => hlt x (by simpa using hx)) hA
  · rw [hsp, hvars]; rfl

/-- FROM THE WALK TO THE LIFTED CLAIM. -/
theorem law_lift {C : Checked} {os : Os} {f : FuncId} {fn : Func} {s : ChangeSpec} {rt : TypeId} (own : ownKnob C.prog.godebug = none) (started : os.Started) (noInit : C.prog.inits.idxOf? f = none) (hfn : C.prog.funcs[f]? = some fn)
    (witness : ∃ (w : World) (tape : Tape) (i : Input), w.os = os ∧ (w.forCall tape i).Shaped C.prog ∧ i.vars = [] ∧ Input.okWide C.prog (w.forCall tape i) .any w.heap.size f i ∧
      s.pre6 enc C.prog fn [] false (w.forCall tape i).memory i.args ∧ ({} : Assume).holds C.prog (lone (Frame.enter C.prog f i.args .normal) [] (w.forCall tape i)))
    (hlaid : laidOutB C.prog = true) (hread : ∀ t ∈ fn.params.toList, C.prog.readableRec t = true ∧ t < C.prog.types.size) (hrt : fn.resultTypes = #[rt]) (hbool : C.prog.underlying rt = some .bool) (hvars : s.vars = [])
    (hspec : ∀ l : List (DataW H), l.length = fn.params.toList.length → s.fn H (l ++ []) = { results := [.lit (.bool true)], args := l })
    (walk : ∀ (W : World) (base : Nat) (args : Array Value) (ds : List (DataW H)) (p : List MemPlace), (∀ (j : Nat) t v, fn.params[j]? = some t → args[j]? = some v → Value.okWide C.prog W .any base t v) →
      DataW.TrodAll enc C.prog W 0 (fun _ => true) true fn.params.toList args.toList ds p → Calls C.prog f args W fun e W' => e = .returned (.bool true) ∧ Below W.heap.size W W') :
    ReturnsInHanded {} C os f .any (s.pre6 enc C.prog fn [] false) (s.post enc C.prog fn false true false false) := by
  refine returnsInHanded_of_change (C := C) own started noInit hfn witness ?_
  intro W base args ds gs before hval hW _ _
  have hW' := hW
  obtain ⟨p, q, hA, _, _, _, _⟩ := hW
  exact (walk W base args ds p hval hA).mono fun e W' ⟨he, hb⟩ => ⟨_, he, law_post hlaid hread hrt hbool hvars hspec hW' hb⟩

variable {w : World} {base : Nat} {sp : Nat → Bool} {hd : Bool}
/-- A field of a struct that reads. -/
theorem rd_at {fs : Array Field} {xs : List (DataW H × List MemPlace)} {n : Nat} {cs : List Value} (hlen : xs.length = fs.size)
    (hg : ∀ (i : Nat) (f : Field), fs[i]? = some f → DataW.trod enc P w base sp hd n f.type ((cs.drop f.offset).take (P.cellsOf f.type)) = xs[i]?) (i : Nat) (f : Field) (hf : fs[i]? = some f) :
    ∃ y, DataW.trod enc P w base sp hd n f.type ((cs.drop f.offset).take (P.cellsOf f.type)) = some y := by
  have hi : i < xs.length := by have := (Array.getElem?_eq_some_iff.1 hf).1; omega
  exact ⟨xs[i], (hg i f hf).trans (List.getElem?_eq_getElem hi)⟩
theorem rd_sub_at {k : Nat} {fs : Array Field} {xs : List (DataW H × List MemPlace)} {n : Nat} {cs : List Value} (hlen : xs.length = fs.size)
    (hg : ∀ (i : Nat) (f : Field), fs[i]? = some f → DataW.trod enc P w base sp hd n f.type ((cs.drop f.offset).take (P.cellsOf f.type)) = xs[i]?) (i : Nat) (f : Field) (hf : fs[i]? = some f)
    (hk : P.cellsOf f.type = k) : ∃ y, DataW.trod enc P w base sp hd n f.type ((cs.drop f.offset).take k) = some y := by
  obtain ⟨y, h⟩ := rd_at hlen hg i f hf
  rw [hk] at h
  exact ⟨y, h⟩
theorem rd_int_at {k : IntKind} {fs : Array Field} {xs : List (DataW H × List MemPlace)} {n : Nat} {cs : List Value} (hlen : xs.length = fs.size)
    (hg : ∀ (i : Nat) (f : Field), fs[i]? = some f → DataW.trod enc P w base sp hd n f.type ((cs.drop f.offset).take (P.cellsOf f.type)) = xs[i]?) (i : Nat) (f : Field) (hf : fs[i]? = some f)
    (hu : P.underlying f.type = some (.int k)) (h1 : P.cellsOf f.type = 1) : ∃ m : Int, (cs.drop f.offset).take 1 = [.int k m] := by
  obtain ⟨_, h⟩ := rd_at hlen hg i f hf
  rw [h1] at h
  obtain ⟨m, e, _, _⟩ := DataW.trod_int hu h
  exact ⟨m, e⟩
theorem rd_string_at {fs : Array Field} {xs : List (DataW H × List MemPlace)} {n : Nat} {cs : List Value} (hlen : xs.length = fs.size)
    (hg : ∀ (i : Nat) (f : Field), fs[i]? = some f → DataW.trod enc P w base sp hd n f.type ((cs.drop f.offset).take (P.cellsOf f.type)) = xs[i]?) (i : Nat) (f : Field) (hf : fs[i]? = some f)
    (hu : P.underlying f.type = some .string) (h1 : P.cellsOf f.type = 1) : ∃ s : ByteArray, (cs.drop f.offset).take 1 = [.string s] ∧ s.size ≤ maxLen := by
  obtain ⟨_, h⟩ := rd_at hlen hg i f hf
  rw [h1] at h
  obtain ⟨m, e, _, hm⟩ := DataW.trod_string hu h
  exact ⟨m, e, hm⟩
theorem rd_bool_at {fs : Array Field} {xs : List (DataW H × List MemPlace)} {n : Nat} {cs : List Value} (hlen : xs.length = fs.size)
    (hg : ∀ (i : Nat) (f : Field), fs[i]? = some f → DataW.trod enc P w base sp hd n f.type ((cs.drop f.offset).take (P.cellsOf f.type)) = xs[i]?) (i : Nat) (f : Field) (hf : fs[i]? = some f)
    (hu : P.underlying f.type = some .bool) (h1 : P.cellsOf f.type = 1) : ∃ b : Bool, (cs.drop f.offset).take 1 = [.bool b] := by
  obtain ⟨_, h⟩ := rd_at hlen hg i f hf
  rw [h1] at h
  obtain ⟨m, e, _⟩ := DataW.trod_bool hu h
  exact ⟨m, e⟩
theorem spot_of_cell {w : World} {a : Addr} {v : Value} (h : w.cell? a = some v) : a.spot = none := by
  unfold World.cell? at h
  split at h
  · split at h
    · cases h
    · rename_i hs; simpa using hs
  · cases h
/-- A slice that reads, each element as f of a thing of type T; a nil slice is told. -/
theorem rd_slicen {T : Type} (f : T → List Value) (sz : Nat) (hsz : 0 < sz) {t e : TypeId} (ht : P.underlying t = some (.slice e)) (hC : P.cellsOf e = sz)
    (helem : ∀ fuel cs x, DataW.trod enc P w base sp hd fuel e cs = some x → ∃ y : T, cs = f y) {fuel : Nat} {cs : List Value} {x : DataW H × List MemPlace} (h : DataW.trod enc P w base sp hd fuel t cs = some x) :
    ∃ (A : Option Addr) (c : Nat) (xs : List T), cs = [.slice A xs.length c] ∧ xs.length ≤ maxLen ∧ Rds sz f w A xs ∧ (A = none → xs = [] ∧ c = 0) := by
  rcases open_slice ht h with ⟨rfl, _⟩ | ⟨a, len, cap, m, n, D, Pl, rfl, _, hlc, hcm, hm, _, hi⟩
  · exact ⟨none, 0, [], rfl, by simp, Rds.nil, fun _ => ⟨rfl, rfl⟩⟩
  · have hle : len ≤ m := by rw [hm]; split <;> omega
    have hex : ∀ i, i < len → ∃ y : T, w.cells? base (a.add (i * sz)) sz = some (f y) := fun i hil => by
      obtain ⟨cs', hcs, htr⟩ := hi i (by omega)
      obtain ⟨y, rfl⟩ := helem _ _ _ htr
      exact ⟨y, by rw [hC] at hcs; exact hcs⟩
    have hall : ∀ k, k ≤ len → ∃ l : List T, l.length = k ∧ ∀ i y, l[i]? = some y → w.cells? base (a.add (i * sz)) sz = some (f y) := by
      intro k
      induction k with
      | zero => intro _; exact ⟨[], rfl, by simp⟩
      | succ k ih =>
        intro hk
        obtain ⟨l, hll, hlc⟩ := ih (by omega)
        obtain ⟨y, hy⟩ := hex k (by omega)
        refine ⟨l ++ [y], by simp [hll], fun i z hz => ?_⟩
        rw [List.getElem?_append] at hz
        split at hz
        · exact hlc i z hz
        · have h0 : i = k := by have := (List.getElem?_eq_some_iff.1 hz).1; simp at this; omega
          subst h0
          rw [hll] at hz; simp at hz; subst hz; exact hy
    obtain ⟨l, hll, hcell⟩ := hall len (Nat.le_refl _)
    refine ⟨some a, cap, l, by rw [hll], by omega, fun hn => ?_, fun h => by cases h⟩
    have at0 : ∀ i y, l[i]? = some y → ∀ j u, (f y)[j]? = some u → w.cell? ((a.add (i * sz)).add j) = some u := fun i y hy j u hu => by
      obtain ⟨_, hcl, hat⟩ := World.cells?_some (hcell i y hy)
      have hj : j < sz := by rw [← hcl]; exact (List.getElem?_eq_some_iff.1 hu).1
      rw [hat j hj]; exact hu
    obtain ⟨y0, hy0⟩ : ∃ y, l[0]? = some y := ⟨_, List.getElem?_eq_getElem hn⟩
    obtain ⟨_, hcl0, _⟩ := World.cells?_some (hcell 0 y0 hy0)
    have hu0 : (f y0)[0]? = some ((f y0)[0]'(by omega)) := List.getElem?_eq_getElem _
    have c0 := at0 0 y0 hy0 0 _ hu0
    rw [Nat.zero_mul, show (a.add 0).add 0 = a from by simp [Addr.add]] at c0
    have hs := spot_of_cell c0
    obtain ⟨b, off, spot⟩ := a
    simp only at hs; subst hs
    refine ⟨b, off, rfl, World.block_lt_of_cell? w _ c0, fun i x hx j u hu => ?_⟩
    have := at0 i x hx j u hu
    rw [add_add] at this
    rw [← this]
    congr 1
    unfold Addr.add
    split <;> simp_all [Nat.add_assoc]
theorem rd_slice {T : Type} (f : T → List Value) (sz : Nat) (hsz : 0 < sz) {t e : TypeId} (ht : P.underlying t = some (.slice e)) (hC : P.cellsOf e = sz)
    (helem : ∀ fuel cs x, DataW.trod enc P w base sp hd fuel e cs = some x → ∃ y : T, cs = f y) {fuel : Nat} {cs : List Value} {x : DataW H × List MemPlace} (h : DataW.trod enc P w base sp hd fuel t cs = some x) :
    ∃ (A : Option Addr) (c : Nat) (xs : List T), cs = [.slice A xs.length c] ∧ xs.length ≤ maxLen ∧ Rds sz f w A xs := by
  obtain ⟨A, c, xs, h1, h2, h3, _⟩ := rd_slicen f sz hsz ht hC helem h
  exact ⟨A, c, xs, h1, h2, h3⟩
theorem agg_of_list {cs : Array Value} {l : List Value} (h : cs.toList = l) : Value.agg cs = .agg l.toArray := by rw [← h]
end
end Go.G9
/- The cursor that the draws read: one step of it. -/
namespace Go.G9
open Go.RowKit
theorem wrap64u (n : Int) : 0 ≤ IntKind.u64.wrap n ∧ IntKind.u64.wrap n < 18446744073709551616 := by
  rw [IntKind.wrap_u64]; omega
theorem and255 {s : Int} (h0 : 0 ≤ s) (h1 : s < 18446744073709551616) : 0 ≤ wrap64 (bits .and .u64 (s / 1099511627776) 255) ∧ wrap64 (bits .and .u64 (s / 1099511627776) 255) ≤ 255 := by
  obtain ⟨n, hn⟩ : ∃ n : Nat, (n : Int) = s / 1099511627776 := ⟨(s / 1099511627776).toNat, by omega⟩
  have h2 := bits_and_u64_nat n 255 (by omega) (by omega)
  rw [← hn, show (255 : Int) = ((255 : Nat) : Int) from rfl, h2]
  have h3 : n &&& 255 ≤ 255 := Nat.and_le_right
  unfold wrap64
  omega
theorem _root_.Go.G9.Blk.grownB {w w' : World} {g p : Nat} {t : TypeId} {cs : Array Value} (h : Blk w g t cs) (hg : w.grownBy w' (some p)) (hne : g ≠ p) : Blk w' g t cs :=
  (hg.block g h.lt (fun e => hne (Option.some.inj e))).trans h
theorem grown_store {w W : World} {p g : Nat} (h : w.grownBy W (some p)) (hg : w.heap.size ≤ g) (j : Nat) (u : Value) : w.grownBy (W.setCell ⟨g, j, none⟩ u) (some p) :=
  ⟨h.os, h.tape, h.output, by simpa [World.setCell] using h.size, fun i hi hne => (Below.heap_setCell W _ u i (by show i ≠ g; omega)).trans (h.block i hi hne)⟩
theorem rds_far {T : Type} {sz : Nat} {f : T → List Value} {w w' : World} {A : Option Addr} {xs : List T} {p : Nat} (h : Rds sz f w A xs) (hg : w.grownBy w' (some p)) (hne : ∀ ad, A = some ad → 0 < xs.length → ad.block ≠ p) : Rds sz f w' A xs := by
  by_cases hn : 0 < xs.length
  · exact h.grown hg (fun ad ha e => hne ad ha hn (Option.some.inj e))
  · have : xs = [] := List.length_eq_zero_iff.1 (by omega)
    subst this; exact Rds.nil
def u8C (x : UInt8) : List Value := [.int .u8 (x.toNat : Int)]
theorem u8C_len (y : UInt8) : (u8C y).length = 1 := rfl
end Go.G9
namespace Go.Proofs.YtbnncgahepcfnaaGreatDoor
open Go.RowKit Go.G9
/-- The cursor at p over the code cs, at N at most. -/
structure Cur (w : World) (p : Nat) (A : Option Addr) (c : Nat) (cs : List UInt8) (N : Nat) : Prop where
  box : ∃ (i s : Int), Blk w p 65 #[.slice A cs.length c, .int .i64 i, .int .u64 s] ∧ 0 ≤ i ∧ i ≤ N
  rds : Rds 1 u8C w A cs
  lo : ∀ ad, A = some ad → 0 < cs.length → ad.block < p
set_option maxHeartbeats 1000000 in
set_option maxRecDepth 100000 in
theorem next_is (p : Nat) (A : Option Addr) (c : Nat) (cs : List UInt8) (hcs : cs.length ≤ 1048576) (N : Nat) (hN : N ≤ 1000000) (w : World) (h : Cur w p A c cs N) :
  Calls Tryz.prog 105 #[.pointer (some ⟨p, 0, none⟩)] w fun e w' => ∃ r : Int, e = .returned (.int .i64 r) ∧ 0 ≤ r ∧ r ≤ 255 ∧ Cur w' p A c cs (N + 1) ∧ w.grownBy w' (some p) := by
  obtain ⟨⟨i, s, hB, hi0, hi1⟩, hR, hlo⟩ := h
  have hne : ∀ ad, A = some ad → 0 < cs.length → ad.block ≠ p := fun ad h1 h2 => Nat.ne_of_lt (hlo ad h1 h2)
  obtain ⟨k, rfl⟩ : ∃ k : Nat, i = k := ⟨i.toNat, by omega⟩
  have hl := hB.lt
  have x0 := fun K : Kin w.heap.size w => ((hB.below K.below hB.lt).cell 0).trans (show _ = some (.slice A cs.length c) from rfl)
  have x1 := fun K : Kin w.heap.size w => ((hB.below K.below hB.lt).cell 1).trans (show _ = some (.int .i64 (k : Int)) from rfl)
  have x2 := fun K : Kin w.heap.size w => ((hB.below K.below hB.lt).cell 2).trans (show _ = some (.int .u64 s) from rfl)
  by_cases hlt : k < cs.length
  · obtain ⟨b0, off0, x', hA0, hbl0, hx0, hcx0⟩ := hR.at_ (Below.refl _ _) hlt
    have f0 := hcx0 0 _ rfl
    clear hx0 hcx0 hA0 hbl0
    go_enter Tryz.func105, Tryz.ntmps105
    go_wp2
    refine wp_region_kin (by kernel_rfl) (by kernel_rfl) ?_
    repeat (go_big_quiet_step ((fail)))
    refine wpQuiet_nil ?_
    intro K0
    have hq0 := K0.below
    have hB0 := hB.below K0.below hl
    have hg0 : w.grownBy K0.world (some p) := below_grown K0.below _
    have hR0 := hR.below K0.below
    clear x0 x1 x2 f0
    generalize K0.world = W0 at *
    obtain ⟨b, off, x, hA, hbl, hx, hcx⟩ := hR0.at_ (Below.refl _ _) hlt
    have f0 := hcx 0 _ rfl
    simp only [Nat.mul_one, Nat.add_zero] at f0
    have hx2 := x.toNat_lt
    have hx3 : (x.toNat : Int) ≤ 255 := by omega
    have hx4 : (0 : Int) ≤ (x.toNat : Int) := by omega
    have HX := Lib.hid hx
    subst hA
    clear hx hcx hx2
    have yl0 := hB0.lt
    have x0 := fun K : Kin W0.heap.size W0 => ((hB0.below K.below hB0.lt).cell 0).trans (show _ = some (.slice (some ⟨b, off, none⟩) cs.length c) from rfl)
    have x1 := fun K : Kin W0.heap.size W0 => ((hB0.below K.below hB0.lt).cell 1).trans (show _ = some (.int .i64 (k : Int)) from rfl)
    go_wp2
    refine wp_region_kin (by kernel_rfl) (by kernel_rfl) ?_
    repeat (go_big_quiet_step ((fail)))
    refine wpQuiet_nil ?_
    intro K
    go_upto_region 4 with fail
    clear x0 x1 f0
    have hB4 := hB0.below K.below yl0
    have hg4 := grown_tr hg0 (below_grown K.below (some p))
    generalize K.world = W at *
    have y := hB4.lt
    have x1 := (hB4.cell 1).trans (show _ = some (.int .i64 (k : Int)) from rfl)
    have f1 := hB4.frozen 1
    go_upto_region 5 with fail
    clear x1 f1
    replace hB4 : Blk (World.setCell W ⟨p, 1, none⟩ (.int .i64 ((k : Int) + 1))) p 65 #[.slice (some ⟨b, off, none⟩) cs.length c, .int .i64 ((k : Int) + 1), .int .u64 s] := hB4.set_ 1 _
    replace hg4 := grown_set (j := 1) hg4 (.int .i64 ((k : Int) + 1))
    generalize World.setCell W ⟨p, 1, none⟩ (.int .i64 ((k : Int) + 1)) = W1 at *
    replace y := hB4.lt
    have x2 := (hB4.cell 2).trans (show _ = some (.int .u64 s) from rfl)
    have f2 := hB4.frozen 2
    go_upto_region 6 with fail
    clear x2 f2
    obtain ⟨s2, hs2⟩ : ∃ s2, s2 = IntKind.u64.wrap (IntKind.u64.wrap (IntKind.u64.wrap (s * 6364136223846793005) + (x.toNat : Int)) + 909909) := ⟨_, rfl⟩
    have hw := wrap64u (IntKind.u64.wrap (IntKind.u64.wrap (s * 6364136223846793005) + (x.toNat : Int)) + 909909)
    rw [← hs2] at hw ⊢
    clear hs2
    replace hB4 : Blk (World.setCell W1 ⟨p, 2, none⟩ (.int .u64 s2)) p 65 #[.slice (some ⟨b, off, none⟩) cs.length c, .int .i64 ((k : Int) + 1), .int .u64 s2] := hB4.set_ 2 _
    replace hg4 := grown_set (j := 2) hg4 (.int .u64 s2)
    generalize World.setCell W1 ⟨p, 2, none⟩ (.int .u64 s2) = W2 at *
    replace y := hB4.lt
    have x0 := fun K : Kin W2.heap.size W2 => ((hB4.below K.below hB4.lt).cell 0).trans (show _ = some (.slice (some ⟨b, off, none⟩) cs.length c) from rfl)
    have x1 := fun K : Kin W2.heap.size W2 => ((hB4.below K.below hB4.lt).cell 1).trans (show _ = some (.int .i64 ((k : Int) + 1)) from rfl)
    have hle : (k : Int) + 1 ≤ (cs.length : Int) := by omega
    go_wp2
    refine wp_region_kin (by kernel_rfl) (by kernel_rfl) ?_
    repeat (go_big_quiet_step ((fail)))
    refine wpQuiet_nil ?_
    intro K2
    clear x0 x1
    have hB6 := hB4.below K2.below y
    have hg6 := grown_tr hg4 (below_grown K2.below (some p))
    generalize K2.world = W3 at *
    replace y := hB6.lt
    have x2 := (hB6.cell 2).trans (show _ = some (.int .u64 s2) from rfl)
    go_wp2
    go_ret
    refine ⟨_, rfl, ?_, ?_, ⟨⟨_, _, hB6, by omega, by omega⟩, rds_far hR hg6 hne, hlo⟩, hg6⟩
    · exact hx4
    · exact hx3
  · go_enter Tryz.func105, Tryz.ntmps105
    go_wp2
    refine wp_region_kin (by kernel_rfl) (by kernel_rfl) ?_
    repeat (go_big_quiet_step ((fail)))
    refine wpQuiet_nil ?_
    intro K
    go_upto_region 4 with fail
    clear x0 x1 x2
    have hB4 := hB.below K.below hl
    have hg4 : w.grownBy K.world (some p) := below_grown K.below _
    generalize K.world = W at *
    have y := hB4.lt
    have x1 := (hB4.cell 1).trans (show _ = some (.int .i64 (k : Int)) from rfl)
    have f1 := hB4.frozen 1
    go_upto_region 5 with fail
    clear x1 f1
    replace hB4 : Blk (World.setCell W ⟨p, 1, none⟩ (.int .i64 ((k : Int) + 1))) p 65 #[.slice A cs.length c, .int .i64 ((k : Int) + 1), .int .u64 s] := hB4.set_ 1 _
    replace hg4 := grown_set (j := 1) hg4 (.int .i64 ((k : Int) + 1))
    generalize World.setCell W ⟨p, 1, none⟩ (.int .i64 ((k : Int) + 1)) = W1 at *
    replace y := hB4.lt
    have x2 := (hB4.cell 2).trans (show _ = some (.int .u64 s) from rfl)
    have f2 := hB4.frozen 2
    go_upto_region 6 with fail
    clear x2 f2
    obtain ⟨s2, hs2⟩ : ∃ s2, s2 = IntKind.u64.wrap (IntKind.u64.wrap (IntKind.u64.wrap (s * 6364136223846793005)) + 909909) := ⟨_, rfl⟩
    have hw := wrap64u (IntKind.u64.wrap (IntKind.u64.wrap (s * 6364136223846793005)) + 909909)
    rw [← hs2] at hw ⊢
    clear hs2
    replace hB4 : Blk (World.setCell W1 ⟨p, 2, none⟩ (.int .u64 s2)) p 65 #[.slice A cs.length c, .int .i64 ((k : Int) + 1), .int .u64 s2] := hB4.set_ 2 _
    replace hg4 := grown_set (j := 2) hg4 (.int .u64 s2)
    generalize World.setCell W1 ⟨p, 2, none⟩ (.int .u64 s2) = W2 at *
    replace y := hB4.lt
    have x0 := fun K : Kin W2.heap.size W2 => ((hB4.below K.below hB4.lt).cell 0).trans (show _ = some (.slice A cs.length c) from rfl)
    have x1 := fun K : Kin W2.heap.size W2 => ((hB4.below K.below hB4.lt).cell 1).trans (show _ = some (.int .i64 ((k : Int) + 1)) from rfl)
    have hgt : ¬ (k : Int) + 1 ≤ (cs.length : Int) := by omega
    go_wp2
    refine wp_region_kin (by kernel_rfl) (by kernel_rfl) ?_
    repeat (go_big_quiet_step ((fail)))
    refine wpQuiet_nil ?_
    intro K2
    clear x0 x1
    have hB6 := hB4.below K2.below y
    have hg6 := grown_tr hg4 (below_grown K2.below (some p))
    generalize K2.world = W3 at *
    replace y := hB6.lt
    have x2 := (hB6.cell 2).trans (show _ = some (.int .u64 s2) from rfl)
    go_wp2
    go_ret
    refine ⟨_, rfl, ?_, ?_, ⟨⟨_, _, hB6, by omega, by omega⟩, rds_far hR hg6 hne, hlo⟩, hg6⟩
    · exact (and255 hw.1 hw.2).1
    · exact (and255 hw.1 hw.2).2
theorem Cur.mono {w : World} {p : Nat} {A : Option Addr} {c : Nat} {cs : List UInt8} {N M : Nat} (h : Cur w p A c cs N) (hM : N ≤ M) : Cur w p A c cs M := by
  obtain ⟨⟨i, s, hB, h0, h1⟩, hR, hne⟩ := h
  exact ⟨⟨i, s, hB, h0, by omega⟩, hR, hne⟩
theorem Cur.lt {w : World} {p : Nat} {A : Option Addr} {c : Nat} {cs : List UInt8} {N : Nat} (h : Cur w p A c cs N) : p < w.heap.size := by
  obtain ⟨⟨i, s, hB, h0, h1⟩, hR, hne⟩ := h
  exact hB.lt
/-- The cursor behind what makes memory. -/
theorem Cur.later {w w' : World} {p : Nat} {A : Option Addr} {c : Nat} {cs : List UInt8} {N : Nat} (h : Cur w p A c cs N) (hb : Below w.heap.size w w') : Cur w' p A c cs N := by
  obtain ⟨⟨i, s, hB, h0, h1⟩, hR, hne⟩ := h
  exact ⟨⟨i, s, hB.below hb hB.lt, h0, h1⟩, hR.below hb, hne⟩
/-- The cursor behind a store elsewhere. -/
theorem Cur.store {w : World} {p : Nat} {A : Option Addr} {c : Nat} {cs : List UInt8} {N : Nat} (h : Cur w p A c cs N) {g : Nat} (hg : p < g) (j : Nat) (u : Value) : Cur (w.setCell ⟨g, j, none⟩ u) p A c cs N := by
  obtain ⟨⟨i, s, hB, h0, h1⟩, hR, hne⟩ := h
  have hgr := grown_set (j := j) (g := g) (grown_refl w (some g)) u
  exact ⟨⟨i, s, hB.grownB hgr (by omega), h0, h1⟩, rds_far hR hgr (fun ad h2 h3 => by have := hne ad h2 h3; omega), hne⟩
/-- What a method of the cursor leaves: the cursor some steps on, all else as it was. -/
def Stepped (w w' : World) (p : Nat) (A : Option Addr) (c : Nat) (cs : List UInt8) (N : Nat) : Prop := Cur w' p A c cs N ∧ w.grownBy w' (some p)
theorem Stepped.size {w w' : World} {p : Nat} {A : Option Addr} {c : Nat} {cs : List UInt8} {N : Nat} (h : Stepped w w' p A c cs N) : w.heap.size ≤ w'.heap.size := h.2.size
theorem stepped_tr {w w1 w2 : World} {p : Nat} {A : Option Addr} {c : Nat} {cs : List UInt8} {N M : Nat} (h : Stepped w w1 p A c cs N) (k : Stepped w1 w2 p A c cs M) : Stepped w w2 p A c cs M := ⟨k.1, grown_tr h.2 k.2⟩
theorem stepped_mk {w w1 w2 : World} {p : Nat} {A : Option Addr} {c : Nat} {cs : List UInt8} {N : Nat} (h : Stepped w w1 p A c cs N) (k : Below w1.heap.size w1 w2) : Stepped w w2 p A c cs N := ⟨h.1.later k, grown_tr h.2 (below_grown k _)⟩
theorem stepped_pre {w w1 w2 : World} {p : Nat} {A : Option Addr} {c : Nat} {cs : List UInt8} {N : Nat} (k : Below w.heap.size w w1) (h : Stepped w1 w2 p A c cs N) : Stepped w w2 p A c cs N := ⟨h.1, grown_tr (below_grown k _) h.2⟩
theorem stepped_mono {w w1 : World} {p : Nat} {A : Option Addr} {c : Nat} {cs : List UInt8} {N M : Nat} (h : Stepped w w1 p A c cs N) (hM : N ≤ M) : Stepped w w1 p A c cs M := ⟨h.1.mono hM, h.2⟩
set_option maxHeartbeats 1000000 in
set_option maxRecDepth 100000 in
theorem pick_is (n : Int) (p : Nat) (A : Option Addr) (c : Nat) (cs : List UInt8) (hcs : cs.length ≤ 1048576) (N : Nat) (hN : N ≤ 900000) (hn : n ≤ 1000000000) (w : World) (h : Cur w p A c cs N) :
  Calls Tryz.prog 76 #[.pointer (some ⟨p, 0, none⟩), .int .i64 n] w fun e w' => ∃ r : Int, e = .returned (.int .i64 r) ∧ (0 ≤ r ∧ (n ≤ 1 → r = 0) ∧ (1 < n → r < n)) ∧ Stepped w w' p A c cs (N + 2) := by
  by_cases h1 : n ≤ 1
  · go_enter Tryz.func76, Tryz.ntmps76
    go_wp2
    go_ret
    exact ⟨0, rfl, ⟨by omega, fun _ => rfl, fun _ => by omega⟩, h.mono (by omega), grown_refl _ _⟩
  · by_cases h2 : n ≤ 200
    · have h2' : ¬ 200 < n := by omega
      go_enter Tryz.func76, Tryz.ntmps76
      go_wp2_with fail
      refine (next_is p A c cs hcs N (by omega) _ h).mono ?_
      rintro e w1 ⟨r, rfl, hr0, hr1, hC, hg⟩
      go_wp2
      go_ret
      exact ⟨_, rfl, ⟨Int.emod_nonneg _ (by omega), fun h => by omega, fun _ => Int.emod_lt_of_pos _ (by omega)⟩, hC.mono (by omega), hg⟩
    · have h2' : 200 < n := by omega
      go_enter Tryz.func76, Tryz.ntmps76
      go_wp2_with fail
      refine (next_is p A c cs hcs N (by omega) _ h).mono ?_
      rintro e w1 ⟨r, rfl, hr0, hr1, hC, hg⟩
      go_wp2_with fail
      refine (next_is p A c cs hcs (N + 1) (by omega) _ hC).mono ?_
      rintro e w2 ⟨r2, rfl, hr20, hr21, hC2, hg2⟩
      go_wp2
      go_ret
      exact ⟨_, rfl, ⟨Int.emod_nonneg _ (by omega), fun h => by omega, fun _ => Int.emod_lt_of_pos _ (by omega)⟩, hC2, grown_tr hg hg2⟩
theorem one_is (n : Int) (p : Nat) (A : Option Addr) (c : Nat) (cs : List UInt8) (hcs : cs.length ≤ 1048576) (N : Nat) (hN : N ≤ 900000) (hn : n ≤ 1000000000) (w : World) (h : Cur w p A c cs N) :
  Calls Tryz.prog 48 #[.pointer (some ⟨p, 0, none⟩), .int .i64 n] w fun e w' => ∃ b : Bool, e = .returned (.bool b) ∧ Stepped w w' p A c cs (N + 2) := by
  go_enter Tryz.func48, Tryz.ntmps48
  go_wp2_with fail
  refine (pick_is n p A c cs hcs N hN hn _ h).mono ?_
  rintro e w1 ⟨r, rfl, _, hS⟩
  go_wp2
  go_ret
  exact ⟨_, rfl, hS⟩
def bC (x : ByteArray) : List Value := [.string x]
theorem bC_len (y : ByteArray) : (bC y).length = 1 := rfl
set_option maxHeartbeats 1000000 in
set_option maxRecDepth 100000 in
theorem of_is (L : Option Addr) (lc : Nat) (xs : List ByteArray) (hx0 : 1 ≤ xs.length) (hx1 : xs.length ≤ 1000) (p : Nat) (A : Option Addr) (c : Nat) (cs : List UInt8) (hcs : cs.length ≤ 1048576) (N : Nat) (hN : N ≤ 900000) (w : World) (h : Cur w p A c cs N)
    (hL : Rds 1 bC w L xs) (hne : ∀ ad, L = some ad → 0 < xs.length → ad.block ≠ p) :
  Calls Tryz.prog 82 #[.pointer (some ⟨p, 0, none⟩), .slice L xs.length lc] w fun e w' => ∃ s, e = .returned (.string s) ∧ s ∈ xs ∧ Stepped w w' p A c cs (N + 2) := by
  go_enter Tryz.func82, Tryz.ntmps82
  go_wp2_with fail
  refine (pick_is xs.length p A c cs hcs N hN (by omega) _ h).mono ?_
  rintro e w1 ⟨r, rfl, ⟨hr0, hr1, hr2⟩, hS⟩
  have hr : r < xs.length := by
    by_cases h1 : (1 : Int) < xs.length
    · exact hr2 h1
    · rw [hr1 (by omega)]; omega
  obtain ⟨k, rfl⟩ : ∃ k : Nat, r = k := ⟨r.toNat, by omega⟩
  have hk : k < xs.length := by omega
  have hL1 := rds_far hL hS.2 hne
  obtain ⟨b, off, x, rfl, hbl, hx, hcx⟩ := hL1.at_ (Below.refl _ _) hk
  have f0 := hcx 0 _ rfl (Kin.self _)
  simp only [Nat.mul_one, Nat.add_zero, Kin.self] at f0
  have HX := Lib.hid hx
  clear hx hcx hr1 hr2 hL hL1
  go_wp2
  go_ret
  exact ⟨x, rfl, List.mem_of_getElem? HX.out, hS⟩
set_option maxHeartbeats 1000000 in
set_option maxRecDepth 100000 in
theorem among_is (L : Option Addr) (lc : Nat) (xs : List Int) (hx0 : 1 ≤ xs.length) (hx1 : xs.length ≤ 1000) (p : Nat) (A : Option Addr) (c : Nat) (cs : List UInt8) (hcs : cs.length ≤ 1048576) (N : Nat) (hN : N ≤ 900000) (w : World) (h : Cur w p A c cs N)
    (hL : Rds 1 intC w L xs) (hne : ∀ ad, L = some ad → 0 < xs.length → ad.block ≠ p) :
  Calls Tryz.prog 59 #[.pointer (some ⟨p, 0, none⟩), .slice L xs.length lc] w fun e w' => ∃ s, e = .returned (.int .i64 s) ∧ s ∈ xs ∧ Stepped w w' p A c cs (N + 2) := by
  go_enter Tryz.func59, Tryz.ntmps59
  go_wp2_with fail
  refine (pick_is xs.length p A c cs hcs N hN (by omega) _ h).mono ?_
  rintro e w1 ⟨r, rfl, ⟨hr0, hr1, hr2⟩, hS⟩
  have hr : r < xs.length := by
    by_cases h1 : (1 : Int) < xs.length
    · exact hr2 h1
    · rw [hr1 (by omega)]; omega
  obtain ⟨k, rfl⟩ : ∃ k : Nat, r = k := ⟨r.toNat, by omega⟩
  have hk : k < xs.length := by omega
  have hL1 := rds_far hL hS.2 hne
  obtain ⟨b, off, x, rfl, hbl, hx, hcx⟩ := hL1.at_ (Below.refl _ _) hk
  have f0 := hcx 0 _ rfl (Kin.self _)
  simp only [Nat.mul_one, Nat.add_zero, Kin.self] at f0
  have HX := Lib.hid hx
  clear hx hcx hr1 hr2 hL hL1
  go_wp2
  go_ret
  exact ⟨x, rfl, List.mem_of_getElem? HX.out, hS⟩
end Go.Proofs.YtbnncgahepcfnaaGreatDoor
