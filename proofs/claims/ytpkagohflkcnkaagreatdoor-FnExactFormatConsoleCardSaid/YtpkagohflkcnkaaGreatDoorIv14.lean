/- From a law's walk to its row: the arguments opened (what a slice, a struct of the input reads as), the row's last step, for every law of this program. -/
import Derived.Test.YtpkagohflkcnkaaGreatDoorIv0
import Derived.ProofKit
import Derived.Carry
import Derived.Deep.Slices
import Derived.Test.YtpkagohflkcnkaaGreatDoorIv2
import Derived.Lib.Bytealg
namespace Go.G9
open Go.ChangeShapes Go.WideShapes Go.ChangeAt Go.RowKit Go.Deep
section
variable {H : Type} {enc : TypeId × Value → H} {P : Program}
theorem trodAll_below (hl : laidOutB P = true) {W W' : World} (hb : Below W.heap.size W W') : ∀ {ts : List TypeId} {vs : List Value} {ds : List (DataW H)} {ps : List MemPlace},
    (∀ t ∈ ts, P.readableRec t = true ∧ t < P.types.size) → (∀ x ∈ ps, x.block < W.heap.size) → DataW.TrodAll enc P W 0 (fun _ => true) true ts vs ds ps →
    DataW.TrodAll enc P W' 0 (fun b => decide (b < W.heap.size)) true ts vs ds ps
  | [], [], [], _, _, _, h => h
  | t :: ts, v :: vs, d :: ds, ps, ht, hlt, h => by
    obtain ⟨p, q, h1, h2, e⟩ := h
    have ht0 := ht t (List.mem_cons.2 (Or.inl rfl))
    exact ⟨p, q, Below.trod hl ht0.1 ht0.2 h1 hb (fun x hx => hlt x (by rw [e]; exact List.mem_append_left _ hx)),
      trodAll_below hl hb (fun t' h' => ht t' (List.mem_cons.2 (Or.inr h'))) (fun x hx => hlt x (by rw [e]; exact List.mem_append_right _ hx)) h2, e⟩
  | [], [], _ :: _, _, _, _, h => h.elim
  | [], _ :: _, _, _, _, _, h => h.elim
  | _ :: _, [], _, _, _, _, h => h.elim
  | _ :: _, _ :: _, [], _, _, _, h => h.elim
theorem trodAll_len {w : World} {base : Nat} {sp : Nat → Bool} {hd : Bool} : ∀ {ts : List TypeId} {vs : List Value} {ds : List (DataW H)} {ps : List MemPlace}, DataW.TrodAll enc P w base sp hd ts vs ds ps → ds.length = ts.length
  | [], [], [], _, _ => rfl
  | _ :: _, _ :: _, _ :: _, _, h => by obtain ⟨_, _, _, h2, _⟩ := h; simp [trodAll_len h2]
  | [], [], _ :: _, _, h => h.elim
  | [], _ :: _, _, _, h => h.elim
  | _ :: _, [], _, _, h => h.elim
  | _ :: _, _ :: _, [], _, h => h.elim

/-- THE ROW'S LAST STEP, FOR A LAW: it answers true and nothing that was there has turned. -/
theorem law_post {fn : Func} {s : ChangeSpec} {W W' : World} {args : Array Value} {ds gs : List (DataW H)} {before : List MemPlace} {rt : TypeId}
    (hlaid : laidOutB P = true) (hread : ∀ t ∈ fn.params.toList, P.readableRec t = true ∧ t < P.types.size) (hrt : fn.resultTypes = #[rt]) (hbool : P.underlying rt = some .bool) (hvars : s.vars = [])
    (hspec : ∀ l : List (DataW H), l.length = fn.params.toList.length → s.fn H (l ++ []) = { results := [.lit (.bool true)], args := l })
    (hW : DataW.Whole enc P fn.params.toList s.vars false W args.toList ds gs before) (hb : Below W.heap.size W W') : s.post enc P fn false true false false W args (.bool true) W' := by
  have hlt := hW.lt
  have hW' := hW
  obtain ⟨p, q, hA, hV, rfl, hfz, hnd⟩ := hW
  rw [hvars] at hV
  obtain ⟨rfl, rfl⟩ := trodVars_none hV
  have hsp := hspec ds (trodAll_len hA)
  refine ⟨ds, [], p ++ [], [], p, [], hW', ?_, ?_, ?_, hb.frame _, fun h => by cases h⟩
  · rw [hsp, hrt]; exact trodAll_mk1 (shut_bool hbool true)
  · rw [hsp]; exact trodAll_below hlaid hb hread (fun x hx => hlt x (by simpa using hx)) hA
  · rw [hsp, hvars]; rfl

/-- FROM THE WALK TO THE LIFTED CLAIM. -/
theorem law_lift {C : Checked} {os : Os} {f : FuncId} {fn : Func} {s : ChangeSpec} {rt : TypeId} (own : ownKnob C.prog.godebug = none) (started : os.Started) (noInit : C.prog.inits.idxOf? f = none) (hfn : C.prog.funcs[f]? = some fn)
    (witness : ∃ (w : World) (tape : Tape) (i : Input), w.os = os ∧ (w.forCall tape i).Shaped C.prog ∧ i.vars = [] ∧ Input.okWide C.prog (w.forCall tape i) .any w.heap.size f i ∧
      s.pre6 enc C.prog fn [] false (w.forCall tape i).memory i.args ∧ ({} : Assume).holds C.prog (lone (Frame.enter C.prog f i.args .normal) [] (w.forCall tape i)))
    (hlaid : laidOutB C.prog = true) (hread : ∀ t ∈ fn.params.toList, C.prog.readableRec t = true ∧ t < C.prog.types.size) (hrt : fn.resultTypes = #[rt]) (hbool : C.prog.underlying rt = some .bool) (hvars : s.vars = [])
    (hspec : ∀ l : List (DataW H), l.length = fn.params.toList.length → s.fn H (l ++ []) = { results := [.lit (.bool true)], args := l })
    (walk : ∀ (W : World) (base : Nat) (args : Array Value) (ds : List (DataW H)) (p : List MemPlace), (∀ (j : Nat) t v, fn.params[j]? = some t → args[j]? = some v → Value.okWide C.prog W .any base t v) →
      DataW.TrodAll enc C.prog W 0 (fun _ => true) true fn.params.toList args.toList ds p → Calls C.prog f args W fun e W' => e = .returned (.bool true) ∧ Below W.heap.size W W') :
    ReturnsInHanded {} C os f .any (s.pre6 enc C.prog fn [] false) (s.post enc C.prog fn false true false false) := by
  refine returnsInHanded_of_change (C := C) own started noInit hfn witness ?_
  intro W base args ds gs before hval hW _ _
  have hW' := hW
  obtain ⟨p, q, hA, _, _, _, _⟩ := hW
  exact (walk W base args ds p hval hA).mono fun e W' ⟨he, hb⟩ => ⟨_, he, law_post hlaid hread hrt hbool hvars hspec hW' hb⟩

variable {w : World} {base : Nat} {sp : Nat → Bool} {hd : Bool}
/-- A field of a struct that reads. -/
theorem rd_at {fs : Array Field} {xs : List (DataW H × List MemPlace)} {n : Nat} {cs : List Value} (hlen : xs.length = fs.size)
    (hg : ∀ (i : Nat) (f : Field), fs[i]? = some f → DataW.trod enc P w base sp hd n f.type ((cs.drop f.offset).take (P.cellsOf f.type)) = xs[i]?) (i : Nat) (f : Field) (hf : fs[i]? = some f) :
    ∃ y, DataW.trod enc P w base sp hd n f.type ((cs.drop f.offset).take (P.cellsOf f.type)) = some y := by
  have hi : i < xs.length := by have := (Array.getElem?_eq_some_iff.1 hf).1; omega
  exact ⟨xs[i], (hg i f hf).trans (List.getElem?_eq_getElem hi)⟩
theorem rd_sub_at {k : Nat} {fs : Array Field} {xs : List (DataW H × List MemPlace)} {n : Nat} {cs : List Value} (hlen : xs.length = fs.size)
    (hg : ∀ (i : Nat) (f : Field), fs[i]? = some f → DataW.trod enc P w base sp hd n f.type ((cs.drop f.offset).take (P.cellsOf f.type)) = xs[i]?) (i : Nat) (f : Field) (hf : fs[i]? = some f)
    (hk : P.cellsOf f.type = k) : ∃ y, DataW.trod enc P w base sp hd n f.type ((cs.drop f.offset).take k) = some y := by
  obtain ⟨y, h⟩ := rd_at hlen hg i f hf
  rw [hk] at h
  exact ⟨y, h⟩
theorem rd_int_at {k : IntKind} {fs : Array Field} {xs : List (DataW H × List MemPlace)} {n : Nat} {cs : List Value} (hlen : xs.length = fs.size)
    (hg : ∀ (i : Nat) (f : Field), fs[i]? = some f → DataW.trod enc P w base sp hd n f.type ((cs.drop f.offset).take (P.cellsOf f.type)) = xs[i]?) (i : Nat) (f : Field) (hf : fs[i]? = some f)
    (hu : P.underlying f.type = some (.int k)) (h1 : P.cellsOf f.type = 1) : ∃ m : Int, (cs.drop f.offset).take 1 = [.int k m] := by
  obtain ⟨_, h⟩ := rd_at hlen hg i f hf
  rw [h1] at h
  obtain ⟨m, e, _, _⟩ := DataW.trod_int hu h
  exact ⟨m, e⟩
theorem rd_string_at {fs : Array Field} {xs : List (DataW H × List MemPlace)} {n : Nat} {cs : List Value} (hlen : xs.length = fs.size)
    (hg : ∀ (i : Nat) (f : Field), fs[i]? = some f → DataW.trod enc P w base sp hd n f.type ((cs.drop f.offset).take (P.cellsOf f.type)) = xs[i]?) (i : Nat) (f : Field) (hf : fs[i]? = some f)
    (hu : P.underlying f.type = some .string) (h1 : P.cellsOf f.type = 1) : ∃ s : ByteArray, (cs.drop f.offset).take 1 = [.string s] ∧ s.size ≤ maxLen := by
  obtain ⟨_, h⟩ := rd_at hlen hg i f hf
  rw [h1] at h
  obtain ⟨m, e, _, hm⟩ := DataW.trod_string hu h
  exact ⟨m, e, hm⟩
theorem rd_bool_at {fs : Array Field} {xs : List (DataW H × List MemPlace)} {n : Nat} {cs : List Value} (hlen : xs.length = fs.size)
    (hg : ∀ (i : Nat) (f : Field), fs[i]? = some f → DataW.trod enc P w base sp hd n f.type ((cs.drop f.offset).take (P.cellsOf f.type)) = xs[i]?) (i : Nat) (f : Field) (hf : fs[i]? = some f)
    (hu : P.underlying f.type = some .bool) (h1 : P.cellsOf f.type = 1) : ∃ b : Bool, (cs.drop f.offset).take 1 = [.bool b] := by
  obtain ⟨_, h⟩ := rd_at hlen hg i f hf
  rw [h1] at h
  obtain ⟨m, e, _⟩ := DataW.trod_bool hu h
  exact ⟨m, e⟩
theorem spot_of_cell {w : World} {a : Addr} {v : Value} (h : w.cell? a = some v) : a.spot = none := by
  unfold World.cell? at h
  split at h
  · split at h
    · cases h
    · rename_i hs; simpa using hs
  · cases h
/-- A slice that reads, each element as f of a thing of type T; a nil slice is told. -/
theorem rd_slicen {T : Type} (f : T → List Value) (sz : Nat) (hsz : 0 < sz) {t e : TypeId} (ht : P.underlying t = some (.slice e)) (hC : P.cellsOf e = sz)
    (helem : ∀ fuel cs x, DataW.trod enc P w base sp hd fuel e cs = some x → ∃ y : T, cs = f y) {fuel : Nat} {cs : List Value} {x : DataW H × List MemPlace} (h : DataW.trod enc P w base sp hd fuel t cs = some x) :
    ∃ (A : Option Addr) (c : Nat) (xs : List T), cs = [.slice A xs.length c] ∧ xs.length ≤ maxLen ∧ Rds sz f w A xs ∧ (A = none → xs = [] ∧ c = 0) := by
  rcases open_slice ht h with ⟨rfl, _⟩ | ⟨a, len, cap, m, n, D, Pl, rfl, _, hlc, hcm, hm, _, hi⟩
  · exact ⟨none, 0, [], rfl, by simp, Rds.nil, fun _ => ⟨rfl, rfl⟩⟩
  · have hle : len ≤ m := by rw [hm]; split <;> omega
    have hex : ∀ i, i < len → ∃ y : T, w.cells? base (a.add (i * sz)) sz = some (f y) := fun i hil => by
      obtain ⟨cs', hcs, htr⟩ := hi i (by omega)
      obtain ⟨y, rfl⟩ := helem _ _ _ htr
      exact ⟨y, by rw [hC] at hcs; exact hcs⟩
    have hall : ∀ k, k ≤ len → ∃ l : List T, l.length = k ∧ ∀ i y, l[i]? = some y → w.cells? base (a.add (i * sz)) sz = some (f y) := by
      intro k
      induction k with
      | zero => intro _; exact ⟨[], rfl, by simp⟩
      | succ k ih =>
        intro hk
        obtain ⟨l, hll, hlc⟩ := ih (by omega)
        obtain ⟨y, hy⟩ := hex k (by omega)
        refine ⟨l ++ [y], by simp [hll], fun i z hz => ?_⟩
        rw [List.getElem?_append] at hz
        split at hz
        · exact hlc i z hz
        · have h0 : i = k := by have := (List.getElem?_eq_some_iff.1 hz).1; simp at this; omega
          subst h0
          rw [hll] at hz; simp at hz; subst hz; exact hy
    obtain ⟨l, hll, hcell⟩ := hall len (Nat.le_refl _)
    refine ⟨some a, cap, l, by rw [hll], by omega, fun hn => ?_, fun h => by cases h⟩
    have at0 : ∀ i y, l[i]? = some y → ∀ j u, (f y)[j]? = some u → w.cell? ((a.add (i * sz)).add j) = some u := fun i y hy j u hu => by
      obtain ⟨_, hcl, hat⟩ := World.cells?_some (hcell i y hy)
      have hj : j < sz := by rw [← hcl]; exact (List.getElem?_eq_some_iff.1 hu).1
      rw [hat j hj]; exact hu
    obtain ⟨y0, hy0⟩ : ∃ y, l[0]? = some y := ⟨_, List.getElem?_eq_getElem hn⟩
    obtain ⟨_, hcl0, _⟩ := World.cells?_some (hcell 0 y0 hy0)
    have hu0 : (f y0)[0]? = some ((f y0)[0]'(by omega)) := List.getElem?_eq_getElem _
    have c0 := at0 0 y0 hy0 0 _ hu0
    rw [Nat.zero_mul, show (a.add 0).add 0 = a from by simp [Addr.add]] at c0
    have hs := spot_of_cell c0
    obtain ⟨b, off, spot⟩ := a
    simp only at hs; subst hs
    refine ⟨b, off, rfl, World.block_lt_of_cell? w _ c0, fun i x hx j u hu => ?_⟩
    have := at0 i x hx j u hu
    rw [add_add] at this
    rw [← this]
    congr 1
    unfold Addr.add
    split <;> simp_all [Nat.add_assoc]
theorem rd_slice {T : Type} (f : T → List Value) (sz : Nat) (hsz : 0 < sz) {t e : TypeId} (ht : P.underlying t = some (.slice e)) (hC : P.cellsOf e = sz)
    (helem : ∀ fuel cs x, DataW.trod enc P w base sp hd fuel e cs = some x → ∃ y : T, cs = f y) {fuel : Nat} {cs : List Value} {x : DataW H × List MemPlace} (h : DataW.trod enc P w base sp hd fuel t cs = some x) :
    ∃ (A : Option Addr) (c : Nat) (xs : List T), cs = [.slice A xs.length c] ∧ xs.length ≤ maxLen ∧ Rds sz f w A xs := by
  obtain ⟨A, c, xs, h1, h2, h3, _⟩ := rd_slicen f sz hsz ht hC helem h
  exact ⟨A, c, xs, h1, h2, h3⟩
theorem agg_of_list {cs : Array Value} {l : List Value} (h : cs.toList = l) : Value.agg cs = .agg l.toArray := by rw [← h]
end
end Go.G9
/- Records of the log: validity. -/
namespace Go.Proofs.YtpkagohflkcnkaaGreatDoor
open Go.RowKit Go.G9
/-- Does a byte stand in a text? -/
def stB (s : ByteArray) (c : UInt8) : Bool := s.data.toList.any (· == c)
theorem indexByte_ge (c : UInt8) : ∀ l : List UInt8, -1 ≤ Lib.indexByte l c ∧ (decide (0 ≤ Lib.indexByte l c)) = l.any (· == c)
  | [] => by simp [Lib.indexByte]
  | b :: l => by
    have ih := indexByte_ge c l
    unfold Lib.indexByte
    by_cases h : b == c
    · simp [h]
    · by_cases h2 : Lib.indexByte l c = -1
      · have := ih.2; rw [h2] at this; simp [h, h2] at this ⊢; exact this
      · have h3 : 0 ≤ Lib.indexByte l c := by omega
        have := ih.2
        simp [h, h2, h3] at this ⊢
        refine ⟨by omega, ?_⟩
        simp [show (0 : Int) ≤ Lib.indexByte l c + 1 from by omega]
        exact this
def plainC (c : UInt8) : Bool := decide (32 ≤ c.toNat) && (decide (c.toNat ≤ 126) && !(c == 35))
def plainB (s : ByteArray) : Bool := s.data.toList.all plainC
theorem plain_take (s : ByteArray) (k : Nat) (h : k < s.size) : (s.data.toList.take (k+1)).all plainC = ((s.data.toList.take k).all plainC && plainC s[k]) := by
  rw [List.take_succ_eq_append_getElem (by simpa using h), List.all_append]; simp; rfl
theorem plain_not (s : ByteArray) (k : Nat) (h : k < s.size) (h1 : plainC s[k] = false) : plainB s = false := by
  have : plainB s = ((s.data.toList.take (k+1)).all plainC && (s.data.toList.drop (k+1)).all plainC) := by
    unfold plainB; rw [← List.all_append, List.take_append_drop]
  rw [this, plain_take s k h, h1]; simp
def recB (c r : ByteArray) : Bool := inB c.size 1 160 && (decide (r.size ≤ 200) && (plainB c && (plainB r && !stB c 64)))
set_option maxRecDepth 100000 in
theorem sIndex1_is (s : ByteArray) (c : UInt8) (w : World) : Calls Tryz.prog 125 #[.string s, .string ⟨#[c]⟩] w fun e w' => e = .returned (.int .i64 (Lib.indexByte s.data.toList c)) ∧ w' = w := by
  have hib : ∀ W, (callFunc 135 #[.string s, .int .u8 (((⟨#[c]⟩ : ByteArray)[0]'(Nat.zero_lt_one)).toNat : Int)]).run Tryz.prog W = .ok (.value (.int .i64 (Lib.indexByte s.data.toList c))) W := fun W => by
    rw [run_callFunc_indexByte Tryz.func135 (by kernel_rfl) (by kernel_rfl) (by kernel_rfl) (by kernel_rfl), Lib.run_indexByteString]
    simp [Result.andThen]; rfl
  by_cases h : ([c] == s.toList) = true
  · have HE := Lib.hid (beq_iff_eq.1 h)
    go_enter Tryz.func125, Tryz.ntmps125
    go_wp2
    go_ret
    have e : s.data.toList = [c] := (ByteArray.toList_eq s).symm.trans HE.out.symm
    exact ⟨by rw [e]; simp [Lib.indexByte], rfl⟩
  · have h' : ([c] == s.toList) = false := by simpa using h
    clear h
    go_enter Tryz.func125, Tryz.ntmps125
    go_wp2
    go_ret
    exact ⟨rfl, rfl⟩
set_option maxRecDepth 100000 in
theorem contains1_is (s : ByteArray) (c : UInt8) (v : Bool) (hv : stB s c = v) (w : World) : Calls Tryz.prog 114 #[.string s, .string ⟨#[c]⟩] w fun e w' => e = .returned (.bool v) ∧ w' = w := by
  subst hv
  have hg := (indexByte_ge c s.data.toList).2
  have HG := Lib.hid hg; clear hg
  go_enter Tryz.func114, Tryz.ntmps114
  go_wp2_with (first | (go_at_call 125; refine (sIndex1_is s c _).mono ?_; rintro e w' ⟨rfl, rfl⟩) | go_in)
  go_ret
  exact ⟨ret_bool HG.out, rfl⟩
theorem isPlain_is (s : ByteArray) (hs : s.size ≤ maxLen) (v : Bool) (hv : plainB s = v) (w : World) : Calls Tryz.prog 113 #[.string s] w fun e w' => e = .returned (.bool v) ∧ w' = w := by
  subst hv
  unfold maxLen at hs
  go_enter Tryz.func113, Tryz.ntmps113
  go_wp2
  go_loop [3] (fun i => ∃ k : Nat, k ≤ s.size ∧ i = .int .i64 k ∧ (s.data.toList.take k).all plainC = true) (fun i => s.size - (intOf i).toNat)
  case atStart => exact ⟨0, Nat.zero_le _, rfl, rfl⟩
  case round =>
    obtain ⟨k, hk, rfl, hl⟩ := hrel
    have HL := Lib.hid hl; clear hl
    by_cases hlt : k < s.size
    · by_cases h1 : s[k].toNat < 32
      · go_wp2
        go_ret
        exact ⟨ret_bool (plain_not s k hlt (by simp [plainC]; omega)).symm, rfl⟩
      · by_cases h2 : 126 < s[k].toNat
        · go_wp2
          go_ret
          exact ⟨ret_bool (plain_not s k hlt (by simp [plainC]; omega)).symm, rfl⟩
        · by_cases h3 : s[k].toNat = 35
          · have h3' : (((s[k].toNat : Nat) : Int) == 35) = true := by rw [h3]; rfl
            have H3 := Lib.hid h3; clear h3
            go_wp2
            go_ret
            exact ⟨ret_bool (plain_not s k hlt (by have := H3.out; simp [plainC, ← UInt8.toNat_inj, this])).symm, rfl⟩
          · have h3' : (((s[k].toNat : Nat) : Int) == 35) = false := beq_eq_false_iff_ne.2 (by omega)
            go_wp2
            go_round
            case rel => exact ⟨k + 1, by omega, by go_num, by rw [plain_take s k hlt, HL.out]; simp [plainC, ← UInt8.toNat_inj]; omega⟩
            case measure => simp [intOf]; omega
    · obtain rfl : k = s.size := by omega
      go_wp2
      go_ret
      have := HL.out
      rw [List.take_of_length_le (by simp)] at this
      exact ⟨ret_bool this.symm, rfl⟩
theorem l27Plain_is (s : ByteArray) (m : Int) (hs : s.size ≤ maxLen) (v : Bool) (hv : (plainB s && decide (s.size ≤ m)) = v) (w : World) : Calls Tryz.prog 122 #[.string s, .int .i64 m] w fun e w' => e = .returned (.bool v) ∧ w' = w := by
  subst hv
  unfold maxLen at hs
  go_enter Tryz.func122, Tryz.ntmps122
  go_wp2
  go_loop [5] (fun i => ∃ k : Nat, k ≤ s.size ∧ i = .int .i64 k ∧ (s.data.toList.take k).all plainC = true) (fun i => s.size - (intOf i).toNat)
  case atStart => exact ⟨0, Nat.zero_le _, rfl, rfl⟩
  case round =>
    obtain ⟨k, hk, rfl, hl⟩ := hrel
    have HL := Lib.hid hl; clear hl
    by_cases hlt : k < s.size
    · have h256 : s[k].toNat < 256 := UInt8.toNat_lt _
      cases h1 : inB (s[k].toNat : Int) 32 126
      · go_wp2_with (go_at_call 85; refine (l1In_is _ _ _ _ h1 _).mono ?_; rintro e w' ⟨rfl, rfl⟩)
        go_ret
        exact ⟨ret_bool (by rw [plain_not s k hlt (by simp [plainC, inB] at h1 ⊢; omega)]; rfl), rfl⟩
      · have h1' := inB_iff.1 h1
        by_cases h3 : s[k].toNat = 35
        · have h3' : (((s[k].toNat : Nat) : Int) == 35) = true := by rw [h3]; rfl
          have H3 := Lib.hid h3; clear h3
          go_wp2_with (go_at_call 85; refine (l1In_is _ _ _ _ h1 _).mono ?_; rintro e w' ⟨rfl, rfl⟩)
          go_ret
          exact ⟨ret_bool (by rw [plain_not s k hlt (by have := H3.out; simp [plainC, ← UInt8.toNat_inj, this])]; rfl), rfl⟩
        · have h3' : (((s[k].toNat : Nat) : Int) == 35) = false := beq_eq_false_iff_ne.2 (by omega)
          go_wp2_with (go_at_call 85; refine (l1In_is _ _ _ _ h1 _).mono ?_; rintro e w' ⟨rfl, rfl⟩)
          go_round
          case rel => exact ⟨k + 1, by omega, by go_num, by rw [plain_take s k hlt, HL.out]; simp [plainC, ← UInt8.toNat_inj]; omega⟩
          case measure => simp [intOf]; omega
    · obtain rfl : k = s.size := by omega
      go_wp2
      go_ret
      have := HL.out
      rw [List.take_of_length_le (by simp)] at this
      exact ⟨ret_bool (by rw [show plainB s = true from this]; simp), rfl⟩
theorem l1Stands_is (s : ByteArray) (c : UInt8) (hs : s.size ≤ maxLen) (v : Bool) (hv : stB s c = v) (w : World) : Calls Tryz.prog 123 #[.string s, .int .u8 (c.toNat : Int)] w fun e w' => e = .returned (.bool v) ∧ w' = w := by
  subst hv
  unfold maxLen at hs
  go_enter Tryz.func123, Tryz.ntmps123
  go_wp2
  go_loop [5] (fun i => ∃ k : Nat, k ≤ s.size ∧ i = .int .i64 k ∧ (s.data.toList.take k).any (· == c) = false) (fun i => s.size - (intOf i).toNat)
  case atStart => exact ⟨0, Nat.zero_le _, rfl, rfl⟩
  case round =>
    obtain ⟨k, hk, rfl, hl⟩ := hrel
    have HL := Lib.hid hl; clear hl
    by_cases hlt : k < s.size
    · by_cases h3 : s[k] = c
      · have h3' : ((s[k].toNat : Int) == (c.toNat : Int)) = true := by rw [h3]; simp
        have H3 := Lib.hid h3; clear h3
        go_wp2
        go_ret
        exact ⟨ret_bool (Eq.symm (List.any_eq_true.2 ⟨s[k], by exact List.getElem_mem (l := s.data.toList) (by simpa using hlt), by simp [H3.out]⟩)), rfl⟩
      · have h3' : ((s[k].toNat : Int) == (c.toNat : Int)) = false := beq_eq_false_iff_ne.2 (fun h => h3 (UInt8.toNat_inj.1 (by omega)))
        go_wp2
        go_round
        case rel => exact ⟨k + 1, by omega, by go_num, by rw [List.take_succ_eq_append_getElem (by simpa using hlt), List.any_append, HL.out]; simp; exact h3⟩
        case measure => simp [intOf]; omega
    · obtain rfl : k = s.size := by omega
      go_wp2
      go_ret
      have := HL.out
      rw [List.take_of_length_le (by simp)] at this
      exact ⟨ret_bool this.symm, rfl⟩
theorem isValidRecord_is (c r : ByteArray) (hc : c.size ≤ 1048576) (hr : r.size ≤ 1048576) (v : Bool) (hv : recB c r = v) (w : World) : Calls Tryz.prog 100 #[.agg #[.string c, .string r]] w fun e w' => e = .returned (.bool v) ∧ Below w.heap.size w w' := by
  subst hv
  have hc' : c.size ≤ maxLen := by unfold maxLen; omega
  have hr' : r.size ≤ maxLen := by unfold maxLen; omega
  cases h1 : inB (c.size : Int) 1 160
  · go_enter Tryz.func100, Tryz.ntmps100
    go_wp2_with (go_at_call 67; refine (inside_is _ _ _ _ h1 _).mono ?_; rintro e w' ⟨rfl, rfl⟩)
    go_ret
    exact ⟨ret_bool (by simp [recB, h1]), bl1 _ _⟩
  by_cases h2 : r.size ≤ 200
  · cases h3 : plainB c
    · go_enter Tryz.func100, Tryz.ntmps100
      go_wp2_with (first | (go_at_call 67; refine (inside_is _ _ _ _ h1 _).mono ?_; rintro e w' ⟨rfl, rfl⟩) | (go_at_call 113; refine (isPlain_is c hc' _ h3 _).mono ?_; rintro e w' ⟨rfl, rfl⟩))
      go_ret
      exact ⟨ret_bool (by simp [recB, h3]), bl1 _ _⟩
    cases h4 : plainB r
    · go_enter Tryz.func100, Tryz.ntmps100
      go_wp2_with fail
      refine (inside_is _ _ _ _ h1 _).mono ?_
      rintro e w' ⟨rfl, rfl⟩
      go_wp2_with fail
      refine (isPlain_is c hc' _ h3 _).mono ?_
      rintro e w' ⟨rfl, rfl⟩
      go_wp2_with fail
      refine (isPlain_is r hr' _ h4 _).mono ?_
      rintro e w' ⟨rfl, rfl⟩
      go_wp2
      go_ret
      exact ⟨ret_bool (by simp [recB, h4]), bl1 _ _⟩
    · go_enter Tryz.func100, Tryz.ntmps100
      go_wp2_with fail
      refine (inside_is _ _ _ _ h1 _).mono ?_
      rintro e w' ⟨rfl, rfl⟩
      go_wp2_with fail
      refine (isPlain_is c hc' _ h3 _).mono ?_
      rintro e w' ⟨rfl, rfl⟩
      go_wp2_with fail
      refine (isPlain_is r hr' _ h4 _).mono ?_
      rintro e w' ⟨rfl, rfl⟩
      go_wp2_with fail
      refine (contains1_is c 64 _ rfl _).mono ?_
      rintro e w' ⟨rfl, rfl⟩
      go_wp2
      go_ret
      exact ⟨ret_bool (by simp [recB, h1, h2, h3, h4]), bl1 _ _⟩
  · go_enter Tryz.func100, Tryz.ntmps100
    go_wp2_with (go_at_call 67; refine (inside_is _ _ _ _ h1 _).mono ?_; rintro e w' ⟨rfl, rfl⟩)
    go_ret
    exact ⟨ret_bool (by simp [recB, h2]), bl1 _ _⟩
theorem l27Good_is (c r : ByteArray) (hc : c.size ≤ 1048576) (hr : r.size ≤ 1048576) (v : Bool) (hv : recB c r = v) (w : World) : Calls Tryz.prog 108 #[.agg #[.string c, .string r]] w fun e w' => e = .returned (.bool v) ∧ Below w.heap.size w w' := by
  subst hv
  have hc' : c.size ≤ maxLen := by unfold maxLen; omega
  have hr' : r.size ≤ maxLen := by unfold maxLen; omega
  by_cases h0 : c.size = 0
  · have h0' : c.toList.isEmpty = true := by rw [ByteArray.toList_eq]; exact List.isEmpty_iff.2 (List.length_eq_zero_iff.1 (by rw [Array.length_toList]; exact h0))
    have h0'' : c.toList = [] := by simpa using h0'
    have H0 := Lib.hid h0; clear h0
    go_enter Tryz.func108, Tryz.ntmps108
    go_wp2
    go_ret
    exact ⟨ret_bool (by simp [recB, inB, H0.out]), bl1 _ _⟩
  · have h0' : c.toList.isEmpty = false := by rw [ByteArray.toList_eq]; cases h : c.data.toList with
      | nil => exfalso; apply h0; have := congrArg List.length h; rw [Array.length_toList] at this; exact this
      | cons _ _ => rfl
    have h0'' : (!c.toList.isEmpty) = true := by rw [h0']; rfl
    cases h3 : plainB c && decide ((c.size : Int) ≤ 160)
    · go_enter Tryz.func108, Tryz.ntmps108
      go_wp2_with (go_at_call 122; refine (l27Plain_is c 160 hc' _ h3 _).mono ?_; rintro e w' ⟨rfl, rfl⟩)
      go_ret
      exact ⟨ret_bool (by simp only [Bool.and_eq_false_iff, decide_eq_false_iff_not] at h3; rcases h3 with h3 | h3 <;> simp [recB, inB, h3] <;> omega), bl1 _ _⟩
    cases h4 : stB c 64
    · go_enter Tryz.func108, Tryz.ntmps108
      go_wp2_with fail
      refine (l27Plain_is c 160 hc' _ h3 _).mono ?_
      rintro e w' ⟨rfl, rfl⟩
      go_wp2_with fail
      refine (l1Stands_is c 64 hc' _ h4 _).mono ?_
      rintro e w' ⟨rfl, rfl⟩
      go_wp2_with fail
      refine (l27Plain_is r 200 hr' _ rfl _).mono ?_
      rintro e w' ⟨rfl, rfl⟩
      go_wp2
      go_ret
      simp only [Bool.and_eq_true, decide_eq_true_eq] at h3
      have e1 : inB (c.size : Int) 1 160 = true := inB_iff.2 (by omega)
      exact ⟨ret_bool (by cases hp : plainB r <;> simp [recB, e1, h3.1, h4, hp] <;> omega), bl1 _ _⟩
    · go_enter Tryz.func108, Tryz.ntmps108
      go_wp2_with fail
      refine (l27Plain_is c 160 hc' _ h3 _).mono ?_
      rintro e w' ⟨rfl, rfl⟩
      go_wp2_with fail
      refine (l1Stands_is c 64 hc' _ h4 _).mono ?_
      rintro e w' ⟨rfl, rfl⟩
      go_wp2
      go_ret
      exact ⟨ret_bool (by simp [recB, h4]), bl1 _ _⟩
end Go.Proofs.YtpkagohflkcnkaaGreatDoor
/- Plain law of the log: a line is read as the record that it was written from, by the program's reader and by the reference's. -/
namespace Go.G9
open Go.RowKit
abbrev L8 := List UInt8
def bs (l : L8) : ByteArray := ⟨l.toArray⟩
theorem bs_list (l : L8) : (bs l).data.toList = l := by simp [bs]
theorem bs_of (s : ByteArray) : bs s.data.toList = s := ba_ext (bs_list _)
theorem bs_size (l : L8) : (bs l).size = l.length := by show l.toArray.size = _; simp
theorem bs_app (a b : L8) : bs a ++ bs b = bs (a ++ b) := ba_ext (by simp [bs])
theorem bs_inj {a b : L8} (h : bs a = bs b) : a = b := by have := congrArg (fun s : ByteArray => s.data.toList) h; simpa [bs_list] using this
/-- What stands ahead of the first byte c; behind it. -/
def bef (c : UInt8) (l : L8) : L8 := l.takeWhile (fun x => !(x == c))
def aft (c : UInt8) (l : L8) : L8 := (l.dropWhile (fun x => !(x == c))).drop 1
theorem bef_app {c : UInt8} {a b : L8} (h : c ∉ a) : bef c (a ++ c :: b) = a := by
  unfold bef
  rw [List.takeWhile_append_of_pos (fun x hx => by simp; rintro rfl; exact h hx)]
  simp
theorem aft_app {c : UInt8} {a b : L8} (h : c ∉ a) : aft c (a ++ c :: b) = b := by
  unfold aft
  rw [List.dropWhile_append_of_pos (fun x hx => by simp; rintro rfl; exact h hx)]
  simp
theorem bef_none {c : UInt8} : ∀ {a : L8}, c ∉ a → bef c a = a
  | [], _ => rfl
  | x :: a, h => by
    simp only [List.mem_cons, not_or] at h
    have ih := bef_none h.2
    unfold bef at ih ⊢
    have hx : (!(x == c)) = true := by simp; exact fun e => h.1 e.symm
    simp [hx, ih]
theorem aft_none {c : UInt8} : ∀ {a : L8}, c ∉ a → aft c a = []
  | [], _ => rfl
  | x :: a, h => by
    simp only [List.mem_cons, not_or] at h
    have ih := aft_none h.2
    unfold aft at ih ⊢
    have hx : (!(x == c)) = true := by simp; exact fun e => h.1 e.symm
    simp [hx]
    simpa using ih
theorem bef_not {c : UInt8} : ∀ (a : L8), c ∉ bef c a
  | [] => by simp [bef]
  | x :: a => by
    have ih := bef_not (c := c) a
    unfold bef at ih ⊢
    by_cases hx : x = c
    · simp [hx]
    · simp [hx, ih, Ne.symm hx]
theorem split_at {c : UInt8} : ∀ {l : L8}, c ∈ l → l = bef c l ++ c :: aft c l
  | [], h => by simp at h
  | x :: l, h => by
    by_cases hx : x = c
    · subst hx; simp [bef, aft]
    · have hl : c ∈ l := by simpa [Ne.symm hx] using h
      have ih := split_at hl
      have e1 : bef c (x :: l) = x :: bef c l := by simp [bef, hx]
      have e2 : aft c (x :: l) = aft c l := by simp [aft, hx]
      rw [e1, e2, List.cons_append, ← ih]
theorem bef_len_le (c : UInt8) (l : L8) : (bef c l).length ≤ l.length := by
  unfold bef; exact (List.takeWhile_sublist _).length_le
theorem aft_len_le (c : UInt8) (l : L8) : (aft c l).length ≤ l.length := by
  unfold aft; exact (List.Sublist.trans (List.drop_sublist _ _) (List.dropWhile_sublist _)).length_le
def hasC (c : UInt8) (l : L8) : Bool := l.contains c
theorem hasC_mem {c : UInt8} {l : L8} : hasC c l = true ↔ c ∈ l := List.contains_iff_mem
theorem hasC_not {c : UInt8} {l : L8} : hasC c l = false ↔ c ∉ l := by rw [← Bool.not_eq_true, hasC_mem]
/-- The checksum, the sealed text, the line of a record (without its end). -/
def sumL (l : L8) : Nat := l.foldl (fun h c => (41 * h + c.toNat + 1) % 999979) 7
def numL (n : Int) : L8 := Lib.itoa n
def sealL (l : L8) : L8 := l ++ 35 :: numL (sumL l)
def bodyL (k : Int) (c r : L8) : L8 := numL k ++ 32 :: (c ++ 64 :: r)
def lineL (k : Int) (c r : L8) : L8 := sealL (bodyL k c r)
theorem sumL_lt (l : L8) : sumL l < 999979 := by
  unfold sumL
  have : ∀ (l : L8) (h : Nat), h < 999979 → l.foldl (fun h c => (41 * h + c.toNat + 1) % 999979) h < 999979 := by
    intro l
    induction l with
    | nil => intro h hh; exact hh
    | cons c l ih => intro h _; exact ih _ (Nat.mod_lt _ (by omega))
  exact this l 7 (by omega)
theorem digit_dec (u : Nat) : ∀ x ∈ Lib.decDigits u, 48 ≤ x.toNat ∧ x.toNat ≤ 57 := by
  induction u using Nat.strongRecOn with
  | _ u ih =>
    intro x hx
    rw [Lib.decDigits] at hx
    split at hx
    · simp at hx; subst hx
      rename_i h
      simp; omega
    · rw [List.mem_append] at hx
      rcases hx with hx | hx
      · exact ih (u / 10) (by omega) x hx
      · simp at hx; subst hx
        simp; omega
theorem numL_nonneg {n : Int} (h : 0 ≤ n) : numL n = Lib.decDigits n.toNat := by unfold numL Lib.itoa; rw [if_neg (by omega)]
theorem numL_not {n : Int} (h : 0 ≤ n) {c : UInt8} (hc : c.toNat < 48) : c ∉ numL n := by
  rw [numL_nonneg h]
  intro hm
  have := digit_dec _ _ hm
  omega
theorem numL_len {n : Int} (h : 0 ≤ n) (h2 : n < 1000000) : (numL n).length ≤ 6 := by
  rw [numL_nonneg h]; exact nDigits_le 5 _ (by omega)
theorem numL_len2 {n : Int} (h : 0 ≤ n) (h2 : n < 100) : (numL n).length ≤ 2 := by
  rw [numL_nonneg h]; exact nDigits_le 1 _ (by omega)
end Go.G9
namespace Go.Proofs.YtpkagohflkcnkaaGreatDoor
open Go.RowKit Go.G9
def okL (c r : L8) : Bool := recB (bs c) (bs r)
theorem okL_parts {c r : L8} (h : okL c r = true) : 1 ≤ c.length ∧ c.length ≤ 160 ∧ r.length ≤ 200 ∧ (35 : UInt8) ∉ c ∧ (35 : UInt8) ∉ r ∧ (64 : UInt8) ∉ c ∧ (10 : UInt8) ∉ c ∧ (10 : UInt8) ∉ r := by
  simp only [okL, recB, inB, plainB, stB, bs_list, bs_size, Bool.and_eq_true, decide_eq_true_eq, Bool.not_eq_true', List.all_eq_true, List.any_eq_false] at h
  obtain ⟨⟨h1, h2⟩, h3, h4, h5, h6⟩ := h
  have hp : ∀ x, plainC x = true → x ≠ 35 ∧ x ≠ 10 := by
    intro x hx
    constructor
    · rintro rfl; simp [plainC] at hx
    · rintro rfl; revert hx; decide
  refine ⟨by omega, by omega, by omega, fun hm => (hp _ (h4 _ hm)).1 rfl, fun hm => (hp _ (h5 _ hm)).1 rfl, fun hm => by have := h6 _ hm; simp at this, fun hm => (hp _ (h4 _ hm)).2 rfl, fun hm => (hp _ (h5 _ hm)).2 rfl⟩
theorem body_parts {k : Int} (hk : 0 ≤ k) {c r : L8} (h : okL c r = true) : (35 : UInt8) ∉ bodyL k c r ∧ (10 : UInt8) ∉ lineL k c r ∧ bef 35 (lineL k c r) = bodyL k c r ∧ aft 32 (bodyL k c r) = c ++ 64 :: r ∧ bef 64 (c ++ 64 :: r) = c ∧ aft 64 (c ++ 64 :: r) = r := by
  obtain ⟨_, _, _, h1, h2, h3, h4, h5⟩ := okL_parts h
  have n35 := numL_not hk (c := 35) (by decide)
  have n32 := numL_not hk (c := 32) (by decide)
  have n10 := numL_not hk (c := 10) (by decide)
  have hb : (35 : UInt8) ∉ bodyL k c r := by
    unfold bodyL; simp [n35, h1, h2]
  have s10 := numL_not (n := (sumL (bodyL k c r) : Nat)) (by omega) (c := 10) (by decide)
  refine ⟨hb, ?_, ?_, ?_, bef_app h3, aft_app h3⟩
  · unfold lineL sealL
    simp only [List.mem_append, List.mem_cons, not_or]
    refine ⟨?_, by decide, s10⟩
    unfold bodyL; simp [n10, h4, h5]
  · unfold lineL sealL; exact bef_app hb
  · unfold bodyL; exact aft_app n32
theorem lineL_len {k : Int} (hk : 0 ≤ k) (hk2 : k < 100) {c r : L8} (h : okL c r = true) : (lineL k c r).length ≤ 371 := by
  obtain ⟨h1, h2, h3, _⟩ := okL_parts h
  have a := numL_len2 hk hk2
  have b := numL_len (n := (sumL (bodyL k c r) : Nat)) (by omega) (by have := sumL_lt (bodyL k c r); omega)
  unfold lineL sealL
  simp only [List.length_append, List.length_cons]
  unfold bodyL
  simp only [List.length_append, List.length_cons]
  unfold bodyL at b
  omega
/-- The program's reader of a line; the reference's. -/
def rdI (line : L8) (k : Nat) : Option (L8 × L8) :=
  let rest := aft 32 (bef 35 line)
  if okL (bef 64 rest) (aft 64 rest) && decide (lineL k (bef 64 rest) (aft 64 rest) = line) then some (bef 64 rest, aft 64 rest) else none
def rdS (line : L8) (k : Nat) : Option (L8 × L8) :=
  let text := bef 35 line; let ahead := numL k ++ [32]
  if text.take ahead.length = ahead then
    let rest := text.drop ahead.length; let ask := bef 64 rest
    if ask.length = rest.length then none
    else if okL ask (rest.drop (ask.length + 1)) && decide (lineL k ask (rest.drop (ask.length + 1)) = line) then some (ask, rest.drop (ask.length + 1)) else none
  else none
theorem rdI_some {line : L8} {k : Nat} {c r : L8} (h : rdI line k = some (c, r)) : okL c r = true ∧ line = lineL k c r := by
  unfold rdI at h
  simp only at h
  split at h
  · rename_i hc
    simp only [Bool.and_eq_true, decide_eq_true_eq] at hc
    simp only [Option.some.injEq, Prod.mk.injEq] at h
    obtain ⟨rfl, rfl⟩ := h
    exact ⟨hc.1, hc.2.symm⟩
  · cases h
theorem rdS_some {line : L8} {k : Nat} {c r : L8} (h : rdS line k = some (c, r)) : okL c r = true ∧ line = lineL k c r := by
  unfold rdS at h
  simp only at h
  split at h
  · split at h
    · cases h
    · split at h
      · rename_i hc
        simp only [Bool.and_eq_true, decide_eq_true_eq] at hc
        simp only [Option.some.injEq, Prod.mk.injEq] at h
        obtain ⟨rfl, rfl⟩ := h
        exact ⟨hc.1, hc.2.symm⟩
      · cases h
  · cases h
theorem rdI_line {k : Nat} {c r : L8} (h : okL c r = true) : rdI (lineL k c r) k = some (c, r) := by
  obtain ⟨_, _, h1, h2, h3, h4⟩ := body_parts (k := (k : Int)) (by omega) h
  unfold rdI
  simp only [h1, h2, h3, h4, h, decide_true, Bool.and_self, if_true]
theorem rdS_line {k : Nat} {c r : L8} (h : okL c r = true) : rdS (lineL k c r) k = some (c, r) := by
  obtain ⟨_, _, h1, _, h3, _⟩ := body_parts (k := (k : Int)) (by omega) h
  have e1 : bodyL k c r = (numL k ++ [32]) ++ (c ++ 64 :: r) := by simp [bodyL]
  unfold rdS
  simp only [h1]
  rw [e1, List.take_left' rfl, if_pos rfl, List.drop_left' rfl, h3, if_neg (by simp)]
  have e2 : (c ++ 64 :: r).drop (c.length + 1) = r := by rw [List.drop_append]; simp
  rw [e2, h]
  simp
theorem rdS_eq (line : L8) (k : Nat) : rdS line k = rdI line k := by
  cases h : rdI line k with
  | some x =>
    obtain ⟨c, r⟩ := x
    obtain ⟨h1, rfl⟩ := rdI_some h
    exact rdS_line h1
  | none =>
    cases h2 : rdS line k with
    | none => rfl
    | some x =>
      obtain ⟨c, r⟩ := x
      obtain ⟨h3, rfl⟩ := rdS_some h2
      rw [rdI_line h3] at h; cases h
/-- A record read from the start of a text. -/
def rd1 (l : L8) (k : Nat) : Option (L8 × L8 × Nat) :=
  if hasC 10 l && decide (k < 60) then (rdI (bef 10 l) k).map fun x => (x.1, x.2, (bef 10 l).length + 1) else none
theorem rd1_some {l : L8} {k : Nat} {c r : L8} {n : Nat} (h : rd1 l k = some (c, r, n)) : k < 60 ∧ okL c r = true ∧ n = (lineL k c r).length + 1 ∧ l = lineL k c r ++ 10 :: aft 10 l := by
  unfold rd1 at h
  split at h
  · rename_i hc
    simp only [Bool.and_eq_true, decide_eq_true_eq, hasC_mem] at hc
    cases hx : rdI (bef 10 l) k with
    | none => rw [hx] at h; cases h
    | some x =>
      obtain ⟨c', r'⟩ := x
      rw [hx] at h
      simp only [Option.map_some, Option.some.injEq, Prod.mk.injEq] at h
      obtain ⟨rfl, rfl, rfl⟩ := h
      obtain ⟨h1, h2⟩ := rdI_some hx
      refine ⟨hc.2, h1, by rw [h2], ?_⟩
      have := split_at hc.1
      rw [h2] at this
      exact this
  · cases h
theorem rd1_line {k : Nat} (hk : k < 60) {c r t : L8} (h : okL c r = true) : rd1 (lineL k c r ++ 10 :: t) k = some (c, r, (lineL k c r).length + 1) := by
  have hn := (body_parts (k := (k : Int)) (by omega) h).2.1
  unfold rd1
  rw [bef_app hn, rdI_line h, if_pos (by simp [hk, hasC_mem])]
  rfl
theorem rd1_len {l : L8} {k : Nat} {c r : L8} {n : Nat} (h : rd1 l k = some (c, r, n)) : n ≤ l.length ∧ 1 ≤ n ∧ n ≤ 372 := by
  obtain ⟨h0, h1, rfl, h2⟩ := rd1_some h
  have := lineL_len (k := (k : Int)) (by omega) (by omega) h1
  refine ⟨?_, by omega, by omega⟩
  have e := congrArg List.length h2
  simp at e; omega
/-- The records read from the start of a text: each with the place where it ends. -/
def rdGo : Nat → Nat → L8 → Nat → List (L8 × L8 × Nat)
  | 0, _, _, _ => []
  | f + 1, k, l, a => match rd1 l k with
    | none => []
    | some (c, r, n) => (c, r, a + n) :: rdGo f (k + 1) (l.drop n) (a + n)
def rdAll (l : L8) : List (L8 × L8 × Nat) := rdGo 61 0 l 0
end Go.Proofs.YtpkagohflkcnkaaGreatDoor
