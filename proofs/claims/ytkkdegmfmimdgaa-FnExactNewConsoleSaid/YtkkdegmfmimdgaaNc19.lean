/- From a law's walk to its row: the arguments opened (what a slice, a struct of the input reads as), the row's last step, for every law of this program. -/
import Derived.Test.YtkkdegmfmimdgaaNc0
import Derived.ProofKit
import Derived.Carry
import Derived.Deep.Slices
import Derived.Test.YtkkdegmfmimdgaaNc2
import Derived.Test.YtkkdegmfmimdgaaNc3
import Derived.Test.YtkkdegmfmimdgaaRows
import Derived.Test.YtkkdegmfmimdgaaNc10
namespace Go.G9
open Go.ChangeShapes Go.WideShapes Go.ChangeAt Go.RowKit Go.Deep
section
variable {H : Type} {enc : TypeId × Value → H} {P : Program}
theorem trodAll_below (hl : laidOutB P = true) {W W' : World} (hb : Below W.heap.size W W') : ∀ {ts : List TypeId} {vs : List Value} {ds : List (DataW H)} {ps : List MemPlace},
    (∀ t ∈ ts, P.readableRec t = true ∧ t < P.types.size) → (∀ x ∈ ps, x.block < W.heap.size) → DataW.TrodAll enc P W 0 (fun _ => true) true ts vs ds ps →
    DataW.TrodAll enc P W' 0 (fun b => decide (b < W.heap.size)) true ts vs ds ps
  | [], [], [], _, _, _, h => h
  | t :: ts, v :: vs, d :: ds, ps, ht, hlt, h => by
    obtain ⟨p, q, h1, h2, e⟩ := h
    have ht0 := ht t (List.mem_cons.2 (Or.inl rfl))
    exact ⟨p, q, Below.trod hl ht0.1 ht0.2 h1 hb (fun x hx => hlt x (by rw [e]; exact List.mem_append_left _ hx)),
      trodAll_below hl hb (fun t' h' => ht t' (List.mem_cons.2 (Or.inr h'))) (fun x hx => hlt x (by rw [e]; exact List.mem_append_right _ hx)) h2, e⟩
  | [], [], _ :: _, _, _, _, h => h.elim
  | [], _ :: _, _, _, _, _, h => h.elim
  | _ :: _, [], _, _, _, _, h => h.elim
  | _ :: _, _ :: _, [], _, _, _, h => h.elim
theorem trodAll_len {w : World} {base : Nat} {sp : Nat → Bool} {hd : Bool} : ∀ {ts : List TypeId} {vs : List Value} {ds : List (DataW H)} {ps : List MemPlace}, DataW.TrodAll enc P w base sp hd ts vs ds ps → ds.length = ts.length
  | [], [], [], _, _ => rfl
  | _ :: _, _ :: _, _ :: _, _, h => by obtain ⟨_, _, _, h2, _⟩ := h; simp [trodAll_len h2]
  | [], [], _ :: _, _, h => h.elim
  | [], _ :: _, _, _, h => h.elim
  | _ :: _, [], _, _, h => h.elim
  | _ :: _, _ :: _, [], _, h => h.elim

/-- THE ROW'S LAST STEP, FOR A LAW: it answers true and nothing that was there has turned. -/
theorem law_post {fn : Func} {s : ChangeSpec} {W W' : World} {args : Array Value} {ds gs : List (DataW H)} {before : List MemPlace} {rt : TypeId}
    (hlaid : laidOutB P = true) (hread : ∀ t ∈ fn.params.toList, P.readableRec t = true ∧ t < P.types.size) (hrt : fn.resultTypes = #[rt]) (hbool : P.underlying rt = some .bool) (hvars : s.vars = [])
    (hspec : ∀ l : List (DataW H), l.length = fn.params.toList.length → s.fn H (l ++ []) = { results := [.lit (.bool true)], args := l })
    (hW : DataW.Whole enc P fn.params.toList s.vars false W args.toList ds gs before) (hb : Below W.heap.size W W') : s.post enc P fn false true false false W args (.bool true) W' := by
  have hlt := hW.lt
  have hW' := hW
  obtain ⟨p, q, hA, hV, rfl, hfz, hnd⟩ := hW
  rw [hvars] at hV
  obtain ⟨rfl, rfl⟩ := trodVars_none hV
  have hsp := hspec ds (trodAll_len hA)
  refine ⟨ds, [], p ++ [], [], p, [], hW', ?_, ?_, ?_, hb.frame _, fun h => by cases h⟩
  · rw [hsp, hrt]; exact trodAll_mk1 (shut_bool hbool true)
  · rw [hsp]; exact trodAll_below hlaid hb hread (fun x hx => hlt x (by simpa using hx)) hA
  · rw [hsp, hvars]; rfl

/-- FROM THE WALK TO THE LIFTED CLAIM. -/
theorem law_lift {C : Checked} {os : Os} {f : FuncId} {fn : Func} {s : ChangeSpec} {rt : TypeId} (own : ownKnob C.prog.godebug = none) (started : os.Started) (noInit : C.prog.inits.idxOf? f = none) (hfn : C.prog.funcs[f]? = some fn)
    (witness : ∃ (w : World) (tape : Tape) (i : Input), w.os = os ∧ (w.forCall tape i).Shaped C.prog ∧ i.vars = [] ∧ Input.okWide C.prog (w.forCall tape i) .any w.heap.size f i ∧
      s.pre6 enc C.prog fn [] false (w.forCall tape i).memory i.args ∧ ({} : Assume).holds C.prog (lone (Frame.enter C.prog f i.args .normal) [] (w.forCall tape i)))
    (hlaid : laidOutB C.prog = true) (hread : ∀ t ∈ fn.params.toList, C.prog.readableRec t = true ∧ t < C.prog.types.size) (hrt : fn.resultTypes = #[rt]) (hbool : C.prog.underlying rt = some .bool) (hvars : s.vars = [])
    (hspec : ∀ l : List (DataW H), l.length = fn.params.toList.length → s.fn H (l ++ []) = { results := [.lit (.bool true)], args := l })
    (walk : ∀ (W : World) (base : Nat) (args : Array Value) (ds : List (DataW H)) (p : List MemPlace), (∀ (j : Nat) t v, fn.params[j]? = some t → args[j]? = some v → Value.okWide C.prog W .any base t v) →
      DataW.TrodAll enc C.prog W 0 (fun _ => true) true fn.params.toList args.toList ds p → Calls C.prog f args W fun e W' => e = .returned (.bool true) ∧ Below W.heap.size W W') :
    ReturnsInHanded {} C os f .any (s.pre6 enc C.prog fn [] false) (s.post enc C.prog fn false true false false) := by
  refine returnsInHanded_of_change (C := C) own started noInit hfn witness ?_
  intro W base args ds gs before hval hW _ _
  have hW' := hW
  obtain ⟨p, q, hA, _, _, _, _⟩ := hW
  exact (walk W base args ds p hval hA).mono fun e W' ⟨he, hb⟩ => ⟨_, he, law_post hlaid hread hrt hbool hvars hspec hW' hb⟩

variable {w : World} {base : Nat} {sp : Nat → Bool} {hd : Bool}
/-- A field of a struct that reads. -/
theorem rd_at {fs : Array Field} {xs : List (DataW H × List MemPlace)} {n : Nat} {cs : List Value} (hlen : xs.length = fs.size)
    (hg : ∀ (i : Nat) (f : Field), fs[i]? = some f → DataW.trod enc P w base sp hd n f.type ((cs.drop f.offset).take (P.cellsOf f.type)) = xs[i]?) (i : Nat) (f : Field) (hf : fs[i]? = some f) :
    ∃ y, DataW.trod enc P w base sp hd n f.type ((cs.drop f.offset).take (P.cellsOf f.type)) = some y := by
  have hi : i < xs.length := by have := (Array.getElem?_eq_some_iff.1 hf).1; omega
  exact ⟨xs[i], (hg i f hf).trans (List.getElem?_eq_getElem hi)⟩
theorem rd_sub_at {k : Nat} {fs : Array Field} {xs : List (DataW H × List MemPlace)} {n : Nat} {cs : List Value} (hlen : xs.length = fs.size)
    (hg : ∀ (i : Nat) (f : Field), fs[i]? = some f → DataW.trod enc P w base sp hd n f.type ((cs.drop f.offset).take (P.cellsOf f.type)) = xs[i]?) (i : Nat) (f : Field) (hf : fs[i]? = some f)
    (hk : P.cellsOf f.type = k) : ∃ y, DataW.trod enc P w base sp hd n f.type ((cs.drop f.offset).take k) = some y := by
  obtain ⟨y, h⟩ := rd_at hlen hg i f hf
  rw [hk] at h
  exact ⟨y, h⟩
theorem rd_int_at {k : IntKind} {fs : Array Field} {xs : List (DataW H × List MemPlace)} {n : Nat} {cs : List Value} (hlen : xs.length = fs.size)
    (hg : ∀ (i : Nat) (f : Field), fs[i]? = some f → DataW.trod enc P w base sp hd n f.type ((cs.drop f.offset).take (P.cellsOf f.type)) = xs[i]?) (i : Nat) (f : Field) (hf : fs[i]? = some f)
    (hu : P.underlying f.type = some (.int k)) (h1 : P.cellsOf f.type = 1) : ∃ m : Int, (cs.drop f.offset).take 1 = [.int k m] := by
  obtain ⟨_, h⟩ := rd_at hlen hg i f hf
  rw [h1] at h
  obtain ⟨m, e, _, _⟩ := DataW.trod_int hu h
  exact ⟨m, e⟩
theorem rd_string_at {fs : Array Field} {xs : List (DataW H × List MemPlace)} {n : Nat} {cs : List Value} (hlen : xs.length = fs.size)
    (hg : ∀ (i : Nat) (f : Field), fs[i]? = some f → DataW.trod enc P w base sp hd n f.type ((cs.drop f.offset).take (P.cellsOf f.type)) = xs[i]?) (i : Nat) (f : Field) (hf : fs[i]? = some f)
    (hu : P.underlying f.type = some .string) (h1 : P.cellsOf f.type = 1) : ∃ s : ByteArray, (cs.drop f.offset).take 1 = [.string s] ∧ s.size ≤ maxLen := by
  obtain ⟨_, h⟩ := rd_at hlen hg i f hf
  rw [h1] at h
  obtain ⟨m, e, _, hm⟩ := DataW.trod_string hu h
  exact ⟨m, e, hm⟩
theorem rd_bool_at {fs : Array Field} {xs : List (DataW H × List MemPlace)} {n : Nat} {cs : List Value} (hlen : xs.length = fs.size)
    (hg : ∀ (i : Nat) (f : Field), fs[i]? = some f → DataW.trod enc P w base sp hd n f.type ((cs.drop f.offset).take (P.cellsOf f.type)) = xs[i]?) (i : Nat) (f : Field) (hf : fs[i]? = some f)
    (hu : P.underlying f.type = some .bool) (h1 : P.cellsOf f.type = 1) : ∃ b : Bool, (cs.drop f.offset).take 1 = [.bool b] := by
  obtain ⟨_, h⟩ := rd_at hlen hg i f hf
  rw [h1] at h
  obtain ⟨m, e, _⟩ := DataW.trod_bool hu h
  exact ⟨m, e⟩
theorem spot_of_cell {w : World} {a : Addr} {v : Value} (h : w.cell? a = some v) : a.spot = none := by
  unfold World.cell? at h
  split at h
  · split at h
    · cases h
    · rename_i hs; simpa using hs
  · cases h
/-- A slice that reads, each element as f of a thing of type T; a nil slice is told. -/
theorem rd_slicen {T : Type} (f : T → List Value) (sz : Nat) (hsz : 0 < sz) {t e : TypeId} (ht : P.underlying t = some (.slice e)) (hC : P.cellsOf e = sz)
    (helem : ∀ fuel cs x, DataW.trod enc P w base sp hd fuel e cs = some x → ∃ y : T, cs = f y) {fuel : Nat} {cs : List Value} {x : DataW H × List MemPlace} (h : DataW.trod enc P w base sp hd fuel t cs = some x) :
    ∃ (A : Option Addr) (c : Nat) (xs : List T), cs = [.slice A xs.length c] ∧ xs.length ≤ maxLen ∧ Rds sz f w A xs ∧ (A = none → xs = [] ∧ c = 0) := by
  rcases open_slice ht h with ⟨rfl, _⟩ | ⟨a, len, cap, m, n, D, Pl, rfl, _, hlc, hcm, hm, _, hi⟩
  · exact ⟨none, 0, [], rfl, by simp, Rds.nil, fun _ => ⟨rfl, rfl⟩⟩
  · have hle : len ≤ m := by rw [hm]; split <;> omega
    have hex : ∀ i, i < len → ∃ y : T, w.cells? base (a.add (i * sz)) sz = some (f y) := fun i hil => by
      obtain ⟨cs', hcs, htr⟩ := hi i (by omega)
      obtain ⟨y, rfl⟩ := helem _ _ _ htr
      exact ⟨y, by rw [hC] at hcs; exact hcs⟩
    have hall : ∀ k, k ≤ len → ∃ l : List T, l.length = k ∧ ∀ i y, l[i]? = some y → w.cells? base (a.add (i * sz)) sz = some (f y) := by
      intro k
      induction k with
      | zero => intro _; exact ⟨[], rfl, by simp⟩
      | succ k ih =>
        intro hk
        obtain ⟨l, hll, hlc⟩ := ih (by omega)
        obtain ⟨y, hy⟩ := hex k (by omega)
        refine ⟨l ++ [y], by simp [hll], fun i z hz => ?_⟩
        rw [List.getElem?_append] at hz
        split at hz
        · exact hlc i z hz
        · have h0 : i = k := by have := (List.getElem?_eq_some_iff.1 hz).1; simp at this; omega
          subst h0
          rw [hll] at hz; simp at hz; subst hz; exact hy
    obtain ⟨l, hll, hcell⟩ := hall len (Nat.le_refl _)
    refine ⟨some a, cap, l, by rw [hll], by omega, fun hn => ?_, fun h => by cases h⟩
    have at0 : ∀ i y, l[i]? = some y → ∀ j u, (f y)[j]? = some u → w.cell? ((a.add (i * sz)).add j) = some u := fun i y hy j u hu => by
      obtain ⟨_, hcl, hat⟩ := World.cells?_some (hcell i y hy)
      have hj : j < sz := by rw [← hcl]; exact (List.getElem?_eq_some_iff.1 hu).1
      rw [hat j hj]; exact hu
    obtain ⟨y0, hy0⟩ : ∃ y, l[0]? = some y := ⟨_, List.getElem?_eq_getElem hn⟩
    obtain ⟨_, hcl0, _⟩ := World.cells?_some (hcell 0 y0 hy0)
    have hu0 : (f y0)[0]? = some ((f y0)[0]'(by omega)) := List.getElem?_eq_getElem _
    have c0 := at0 0 y0 hy0 0 _ hu0
    rw [Nat.zero_mul, show (a.add 0).add 0 = a from by simp [Addr.add]] at c0
    have hs := spot_of_cell c0
    obtain ⟨b, off, spot⟩ := a
    simp only at hs; subst hs
    refine ⟨b, off, rfl, World.block_lt_of_cell? w _ c0, fun i x hx j u hu => ?_⟩
    have := at0 i x hx j u hu
    rw [add_add] at this
    rw [← this]
    congr 1
    unfold Addr.add
    split <;> simp_all [Nat.add_assoc]
theorem rd_slice {T : Type} (f : T → List Value) (sz : Nat) (hsz : 0 < sz) {t e : TypeId} (ht : P.underlying t = some (.slice e)) (hC : P.cellsOf e = sz)
    (helem : ∀ fuel cs x, DataW.trod enc P w base sp hd fuel e cs = some x → ∃ y : T, cs = f y) {fuel : Nat} {cs : List Value} {x : DataW H × List MemPlace} (h : DataW.trod enc P w base sp hd fuel t cs = some x) :
    ∃ (A : Option Addr) (c : Nat) (xs : List T), cs = [.slice A xs.length c] ∧ xs.length ≤ maxLen ∧ Rds sz f w A xs := by
  obtain ⟨A, c, xs, h1, h2, h3, _⟩ := rd_slicen f sz hsz ht hC helem h
  exact ⟨A, c, xs, h1, h2, h3⟩
theorem agg_of_list {cs : Array Value} {l : List Value} (h : cs.toList = l) : Value.agg cs = .agg l.toArray := by rw [← h]
end
end Go.G9
/- What the inputs of the laws read as: the reader of each struct, over this program. -/
namespace Go.Proofs.Ytkkdegmfmimdgaa
open Go.ChangeShapes Go.WideShapes Go.ChangeAt Go.RowKit Go.Deep Go.G9
theorem prog_own : ownKnob Try.prog.godebug = none := by kernel_rfl
theorem prog_laid : laidOutB Try.prog = true := by kernel_rfl
theorem cells_int : Try.prog.cellsOf 3 = 1 := by kernel_rfl
theorem cells_string : Try.prog.cellsOf 9 = 1 := by kernel_rfl
theorem cells_bool : Try.prog.cellsOf 4 = 1 := by kernel_rfl
section
variable {H : Type} {enc : TypeId × Value → H} {w : World} {base : Nat} {sp : Nat → Bool} {hd : Bool} {fuel : Nat} {cs : List Value} {x : DataW H × List MemPlace}
theorem rd_Int (h : DataW.trod enc Try.prog w base sp hd fuel 3 cs = some x) : ∃ y : Int, cs = intC y := by
  obtain ⟨n, rfl, _, _⟩ := DataW.trod_int Try.underlying3 h
  exact ⟨n, rfl⟩
end
end Go.Proofs.Ytkkdegmfmimdgaa
/- What a meeting reads as. -/
namespace Go.Proofs.Ytkkdegmfmimdgaa
open Go.ChangeShapes Go.WideShapes Go.ChangeAt Go.RowKit Go.Deep Go.G9
section
variable {H : Type} {enc : TypeId × Value → H} {w : World} {base : Nat} {sp : Nat → Bool} {hd : Bool} {fuel : Nat} {cs : List Value} {x : DataW H × List MemPlace}
theorem cells_Rul : Try.prog.cellsOf 93 = 7 := by kernel_rfl
set_option maxRecDepth 100000 in
theorem rd_Rul (h : DataW.trod enc Try.prog w base sp hd fuel 93 cs = some x) : ∃ y : Rul, cs = y.cells := by
  obtain ⟨xs, n, rfl, _, hl, hlen, hg⟩ := DataW.trod_struct Try.underlying93 h
  match cs, hl.trans cells_Rul with
  | [c0, c1, c2, c3, c4, c5, c6], _ =>
    obtain ⟨n0, e0⟩ := rd_int_at hlen hg 0 _ rfl Try.underlying3 cells_int
    obtain ⟨n1, e1, k1⟩ := rd_string_at hlen hg 1 _ rfl Try.underlying9 cells_string
    obtain ⟨n2, e2⟩ := rd_int_at hlen hg 2 _ rfl Try.underlying3 cells_int
    obtain ⟨n3, e3⟩ := rd_bool_at hlen hg 3 _ rfl Try.underlying4 cells_bool
    obtain ⟨n4, e4⟩ := rd_bool_at hlen hg 4 _ rfl Try.underlying4 cells_bool
    obtain ⟨n5, e5⟩ := rd_bool_at hlen hg 5 _ rfl Try.underlying4 cells_bool
    obtain ⟨n6, e6⟩ := rd_int_at hlen hg 6 _ rfl Try.underlying3 cells_int
    exact ⟨⟨n0, n1, n2, n3, n4, n5, n6, k1⟩, by simp_all [Rul.cells]⟩
theorem cells_Que : Try.prog.cellsOf 106 = 3 := by kernel_rfl
set_option maxRecDepth 100000 in
theorem rd_Que (h : DataW.trod enc Try.prog w base sp hd fuel 106 cs = some x) : ∃ y : Que, cs = y.cells := by
  obtain ⟨xs, n, rfl, _, hl, hlen, hg⟩ := DataW.trod_struct Try.underlying106 h
  match cs, hl.trans cells_Que with
  | [c0, c1, c2], _ =>
    obtain ⟨n0, e0⟩ := rd_int_at hlen hg 0 _ rfl Try.underlying3 cells_int
    obtain ⟨n1, e1⟩ := rd_int_at hlen hg 1 _ rfl Try.underlying3 cells_int
    obtain ⟨n2, e2⟩ := rd_bool_at hlen hg 2 _ rfl Try.underlying4 cells_bool
    exact ⟨⟨n0, n1, n2⟩, by simp_all [Que.cells]⟩
theorem cells_Sha : Try.prog.cellsOf 129 = 3 := by kernel_rfl
set_option maxRecDepth 100000 in
theorem rd_Sha (h : DataW.trod enc Try.prog w base sp hd fuel 129 cs = some x) : ∃ y : Sha, cs = y.cells := by
  obtain ⟨xs, n, rfl, _, hl, hlen, hg⟩ := DataW.trod_struct Try.underlying129 h
  match cs, hl.trans cells_Sha with
  | [c0, c1, c2], _ =>
    obtain ⟨n0, e0⟩ := rd_int_at hlen hg 0 _ rfl Try.underlying3 cells_int
    obtain ⟨n1, e1⟩ := rd_int_at hlen hg 1 _ rfl Try.underlying3 cells_int
    obtain ⟨n2, e2⟩ := rd_int_at hlen hg 2 _ rfl Try.underlying3 cells_int
    exact ⟨⟨n0, n1, n2⟩, by simp_all [Sha.cells]⟩
theorem cells_Out : Try.prog.cellsOf 110 = 3 := by kernel_rfl
set_option maxRecDepth 100000 in
theorem rd_Out (h : DataW.trod enc Try.prog w base sp hd fuel 110 cs = some x) : ∃ y : Out, cs = y.cells := by
  obtain ⟨xs, n, rfl, _, hl, hlen, hg⟩ := DataW.trod_struct Try.underlying110 h
  match cs, hl.trans cells_Out with
  | [c0, c1, c2], _ =>
    obtain ⟨n0, e0⟩ := rd_int_at hlen hg 0 _ rfl Try.underlying3 cells_int
    obtain ⟨n1, e1⟩ := rd_int_at hlen hg 1 _ rfl Try.underlying3 cells_int
    obtain ⟨n2, e2⟩ := rd_bool_at hlen hg 2 _ rfl Try.underlying4 cells_bool
    exact ⟨⟨n0, n1, n2⟩, by simp_all [Out.cells]⟩
theorem cells_rules : Try.prog.cellsOf 22 = 1 := by kernel_rfl
theorem cells_ques : Try.prog.cellsOf 23 = 1 := by kernel_rfl
theorem cells_wint : Try.prog.cellsOf 24 = 1 := by kernel_rfl
theorem cells_shas : Try.prog.cellsOf 25 = 1 := by kernel_rfl
theorem cells_outs : Try.prog.cellsOf 28 = 1 := by kernel_rfl
theorem cells_Flo : Try.prog.cellsOf 27 = 5 := by kernel_rfl
theorem cells_Mee : Try.prog.cellsOf 30 = 8 := by kernel_rfl
set_option maxRecDepth 100000 in
set_option maxHeartbeats 1000000 in
theorem rd_Mee (h : DataW.trod enc Try.prog w base sp hd fuel 30 cs = some x) : ∃ (m : Mee) (A0 A1 A2 A3 A4 : Option Addr) (c0 c1 c2 c3 c4 : Nat), cs = [.slice A0 m.rules.length c0, .slice A1 m.pend.length c1, .int .i64 m.turns, .int .i64 m.secs, .int .i64 m.spk, .slice A2 m.wait.length c2, .slice A3 m.shares.length c3, .slice A4 m.outs.length c4] ∧
    m.rules.length ≤ maxLen ∧ m.pend.length ≤ maxLen ∧ m.wait.length ≤ maxLen ∧ m.shares.length ≤ maxLen ∧ m.outs.length ≤ maxLen ∧
    Rds 7 Rul.cells w A0 m.rules ∧ Rds 3 Que.cells w A1 m.pend ∧ Rds 1 intC w A2 m.wait ∧ Rds 3 Sha.cells w A3 m.shares ∧ Rds 3 Out.cells w A4 m.outs := by
  obtain ⟨xs, n, rfl, _, hl, hlen, hg⟩ := DataW.trod_struct Try.underlying30 h
  match cs, hl.trans cells_Mee with
  | [d0, d1, d2, d3, d4, d5, d6, d7], _ =>
    obtain ⟨_, h0⟩ := rd_sub_at hlen hg 0 _ rfl cells_rules
    obtain ⟨_, h1⟩ := rd_sub_at hlen hg 1 _ rfl cells_ques
    obtain ⟨_, h2⟩ := rd_sub_at hlen hg 2 _ rfl cells_Flo
    obtain ⟨_, h3⟩ := rd_sub_at hlen hg 3 _ rfl cells_outs
    obtain ⟨xs', n', rfl, _, hl', hlen', hg'⟩ := DataW.trod_struct Try.underlying27 h2
    obtain ⟨n0, e2⟩ := rd_int_at hlen' hg' 0 _ rfl Try.underlying3 cells_int
    obtain ⟨n1, e3⟩ := rd_int_at hlen' hg' 1 _ rfl Try.underlying3 cells_int
    obtain ⟨n2, e4⟩ := rd_int_at hlen' hg' 2 _ rfl Try.underlying3 cells_int
    obtain ⟨_, h5⟩ := rd_sub_at hlen' hg' 3 _ rfl cells_wint
    obtain ⟨_, h6⟩ := rd_sub_at hlen' hg' 4 _ rfl cells_shas
    obtain ⟨A0, c0, rs, e0, l0, R0, _⟩ := rd_slicen Rul.cells 7 (by decide) Try.underlying22 cells_Rul (fun _ _ _ h => rd_Rul h) h0
    obtain ⟨A1, c1, qs, e1, l1, R1, _⟩ := rd_slicen Que.cells 3 (by decide) Try.underlying23 cells_Que (fun _ _ _ h => rd_Que h) h1
    obtain ⟨A2, c2, ws, e5, l2, R2, _⟩ := rd_slicen intC 1 (by decide) Try.underlying24 cells_int (fun _ _ _ h => rd_Int h) h5
    obtain ⟨A3, c3, ss, e6, l3, R3, _⟩ := rd_slicen Sha.cells 3 (by decide) Try.underlying25 cells_Sha (fun _ _ _ h => rd_Sha h) h6
    obtain ⟨A4, c4, os, e7, l4, R4, _⟩ := rd_slicen Out.cells 3 (by decide) Try.underlying28 cells_Out (fun _ _ _ h => rd_Out h) h3
    simp at e0 e1 e2 e3 e4 e5 e6 e7
    subst e0 e1 e2 e3 e4 e5 e6 e7
    exact ⟨⟨rs, qs, n0, n1, n2, ws, ss, os⟩, A0, A1, A2, A3, A4, c0, c1, c2, c3, c4, rfl, l0, l1, l2, l3, l4, R0, R1, R2, R3, R4⟩
end
end Go.Proofs.Ytkkdegmfmimdgaa
