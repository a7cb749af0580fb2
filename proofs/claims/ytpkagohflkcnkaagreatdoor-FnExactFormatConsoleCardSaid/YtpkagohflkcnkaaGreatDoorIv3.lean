/- Lists of numbers: copies, comparisons, marks. -/
import Derived.Test.YtpkagohflkcnkaaGreatDoorIv2
import Derived.Test.YtpkagohflkcnkaaGreatDoorIv0
import Derived.Maps.AppendAt
import Derived.Laws.CopyRow
import Derived.Deep.Cut
namespace Go.Proofs.YtpkagohflkcnkaaGreatDoor
open Go.RowKit Go.G9
theorem info_int : (Tryz.prog.info? 3).map (fun i => (i.zero, i.size, i.bytes)) = some (some (.int .i64 0), 1, 8) := by kernel_rfl
theorem intC_len (y : Int) : (intC y).length = 1 := rfl
theorem intC_one (y : Int) (u : Value) (h : u ∈ intC y) : u.oneCell' = true := by simp [intC] at h; subst h; rfl
theorem intC_flat (xs : List Int) : xs.flatMap intC = xs.map (Value.int .i64) := by induction xs with
  | nil => rfl
  | cons x xs ih => simp [intC, ih]
theorem szIntS_is (A : Option Addr) (c : Nat) (xs : List Int) (hn : xs.length ≤ maxLen) (l : Int) (h00 : 0 ≤ l) (h01 : l ≤ 1048576) (w : World) :
  Calls Tryz.prog 53 #[.slice A xs.length c, .int .i64 l] w fun e w' => ∃ r : Int, e = .returned (.int .i64 r) ∧ -1 ≤ r ∧ r ≤ l ∧ (r < 0 ∨ xs.length ≤ 1048576) ∧ w' = w := by
  unfold maxLen at hn
  go_enter Tryz.func53, Tryz.ntmps53
  go_wp2
  all_goals go_ret
  all_goals exact ⟨_, rfl, by omega, by omega, by omega, rfl⟩
theorem eqIntS_is (A A' : Option Addr) (c c' : Nat) (xs : List Int) (hn : xs.length ≤ 1048576) (w : World) (hR : Rds 1 intC w A xs) (hR' : Rds 1 intC w A' xs) :
  Calls Tryz.prog 77 #[.slice A xs.length c, .slice A' xs.length c'] w fun e w' => e = .returned (.bool true) ∧ Below w.heap.size w w' := by
  go_enter Tryz.func77, Tryz.ntmps77
  go_wp2
  go_loopw [5] (fun i wr => ∃ (k : Nat), k ≤ xs.length ∧ i = .int .i64 k ∧ Below w.heap.size w wr) (fun i _ => xs.length - (intOf i).toNat)
  case atStart => exact ⟨0, Nat.zero_le _, rfl, Below.refl _ _⟩
  case round =>
    obtain ⟨k, hk, rfl, hb⟩ := hrel
    by_cases hlt : k < xs.length
    · obtain ⟨b, off, x, rfl, hbl, hx, hcx⟩ := hR.at_ hb hlt
      obtain ⟨b', off', x', rfl, _, hx', hcx'⟩ := hR'.at_ hb hlt
      obtain rfl : x = x' := Option.some.inj (hx.symm.trans hx')
      have f0 := hcx 0 _ rfl
      have e0 := hcx' 0 _ rfl
      simp only [Nat.mul_one, Nat.add_zero] at f0 e0
      clear hx hcx hx' hcx'
      go_wp2
      refine wp_region_kin (by kernel_rfl) (by kernel_rfl) ?_
      repeat (go_big_quiet_step ((fail)))
      refine wpQuiet_nil ?_
      intro K
      go_wp2
      go_roundw
      case rel => exact ⟨k + 1, by omega, by go_num, bth hb K.below⟩
      case measure => simp [intOf]; omega
    · go_wp2
      go_ret
      exact ⟨rfl, hb⟩
set_option maxHeartbeats 1000000 in
theorem toIntS_is (A : Option Addr) (c : Nat) (xs : List Int) (hn : xs.length ≤ 1048576) (w : World) (hR : Rds 1 intC w A xs) :
  Calls Tryz.prog 62 #[.slice A xs.length c] w fun e w' => ∃ A', e = .returned (.slice A' xs.length xs.length) ∧ OwnV w.heap.size 3 1 intC w' (.slice A' xs.length xs.length) xs ∧ Below w.heap.size w w' := by
  obtain ⟨i0, hi, hz0, hz1, hz2⟩ := info_parts info_int
  have hmk := run_make_rowN (P := Tryz.prog) 24 3 i0 _ Tryz.underlying24 hi hz0 .i64 .i64 xs.length xs.length (Nat.le_refl _) (by rw [hz2]; omega) (by omega)
  rw [hz1] at hmk
  go_enter Tryz.func62, Tryz.ntmps62
  go_wp2
  go_loopw [4] (fun i wr => ∃ (k : Nat) (cs : Array Value), k ≤ xs.length ∧ i = .int .i64 k ∧ Blk wr w.heap.size 3 cs ∧ cs.size = xs.length * 1 ∧ Filled 1 intC xs k cs ∧ Below w.heap.size w wr) (fun i _ => xs.length - (intOf i).toNat)
  case atStart => exact ⟨0, _, Nat.zero_le _, rfl, Blk.new _ _ _, by simp [madeCells], Filled.zero, bl1 _ _⟩
  case round =>
    obtain ⟨k, cs, hk, rfl, hB, hsz, hF, hb⟩ := hrel
    have HSZ := Lib.hid hsz; clear hsz
    by_cases hlt : k < xs.length
    · obtain ⟨b, off, x, rfl, hbl, hx, hcx⟩ := hR.at_ hb hlt
      have f0 := hcx 0 _ rfl
      simp only [Nat.mul_one, Nat.add_zero] at f0
      have g0 := f0 (Kin.self _)
      simp only [Kin.self] at g0
      clear hcx
      have HX := Lib.hid hx; clear hx
      obtain ⟨v0, c0⟩ := hB.some_ k (by rw [HSZ.out]; omega)
      have z0 := hB.frozen k
      go_wp2
      go_roundw
      case rel => exact ⟨k + 1, setMany cs (k * 1) (intC x), by omega, by go_num, by have h := hB.setMany (k * 1) (intC x); rw [Nat.mul_one] at h ⊢; exact h, by rw [size_setMany, HSZ.out], hF.put HX.out (by rw [HSZ.out]; simp [intC]; omega), hb.setCell (Nat.le_refl _) _⟩
      case measure => simp [intOf]; omega
    · obtain rfl : k = xs.length := by omega
      go_wp2
      go_ret
      exact ⟨_, rfl, OwnV.filled hB (Nat.le_refl _) HSZ.out (by unfold maxLen; omega) hF.all, hb⟩
end Go.Proofs.YtpkagohflkcnkaaGreatDoor
/- Notices: validity of a notice and of a list of notices, copied, counted and compared. -/
namespace Go.Proofs.YtpkagohflkcnkaaGreatDoor
open Go.RowKit Go.G9
structure Ntc where
  id : Int
  topic : ByteArray
  given : Int
  days : Int
  ok : topic.size ≤ maxLen
def Ntc.cells (n : Ntc) : List Value := [.int .i64 n.id, .string n.topic, .int .i64 n.given, .int .i64 n.days]
def noticeB (n : Ntc) : Bool := inB n.id 1 99 && (wordB n.topic && (inB n.given 0 3650 && inB n.days 0 60))
def ntcStep (xs : List Ntc) : Nat → Bool
  | 0 => match xs[0]? with | some x => noticeB x | none => true
  | j + 1 => match xs[j]?, xs[j+1]? with | some y, some x => noticeB x && decide (y.id < x.id) | _, _ => true
def noticesB (xs : List Ntc) : Bool := allTo (ntcStep xs) xs.length && decide (xs.length ≤ 10)

end Go.Proofs.YtpkagohflkcnkaaGreatDoor
/- Marks: what a slice holds behind the marks, and that it is held. -/
namespace Go.G9
open Go.RowKit
/-- The first marks of n elements of s fields each. -/
def mks (m s : Int) (n : Nat) : List Int := (List.range n).map fun (i : Nat) => m + s * (i : Int)
theorem setMany_one (cs : Array Value) (i : Nat) (a : Value) (bs : List Value) : setMany (setMany cs i [a]) (i + 1) bs = setMany cs i (a :: bs) := rfl
theorem mks_len (m s : Int) (n : Nat) : (mks m s n).length = n := by simp [mks]
theorem mks_get {m s : Int} {n k : Nat} (h : k < n) : (mks m s n)[k]? = some (m + s * k) := by simp [mks, h]
section
variable {T U : Type} {B : Nat} {e : TypeId} {sz : Nat} {f : T → List Value} {h : U → List Value} {w w' : World} {v : Value} {xs : List T}
theorem OwnV.block (hO : OwnV B e sz f w v xs) (hn : 0 < xs.length) : ∃ g cap cur, v = .slice (some ⟨g, 0, none⟩) xs.length cap ∧ B ≤ g ∧ Blk w g e cur ∧ xs.length ≤ cap ∧ cap ≤ maxLen ∧ cur.size = cap * sz := by
  rcases hO.2 with ⟨_, h0⟩ | ⟨g, cap, cur, hv, hB, hh, hnc, hcm, hcs, _⟩
  · omega
  · exact ⟨g, cap, cur, hv, hB, hh, hnc, hcm, hcs⟩
theorem OwnV.empty {A : Option Addr} {n c : Nat} {m s : Int} (hO : OwnV B e sz f w (.slice A n c) ([] : List T)) {p : Int → List Value} : OwnV B e sz p w (.slice A 0 c) (mks m s 0) := by
  obtain ⟨hl, hO⟩ := hO
  refine ⟨by simp [mks], ?_⟩
  rcases hO with ⟨hv, h0⟩ | ⟨g, cap, cur, hv, hB, hh, hnc, hcm, hcs, htake⟩
  · injection hv with h1 h2 h3
    subst h1 h2 h3
    exact .inl ⟨rfl, by simp [mks]⟩
  · injection hv with h1 h2 h3
    subst h1 h3
    simp at h2
    exact .inr ⟨g, c, cur, by simp [mks], hB, hh, by simp [mks], hcm, hcs, by simp [mks]⟩
theorem OwnV.ofBlk {g cap : Nat} {cs : Array Value} (hb : Blk w g e cs) (hB : B ≤ g) (hc : xs.length ≤ cap) (hm : cap ≤ maxLen) (hsz : cs.size = cap * sz) (hF : ∀ i x, xs[i]? = some x → ∀ j u, (f x)[j]? = some u → cs[i * sz + j]? = some u)
    (hf : ∀ y, (f y).length = sz := by intro y; rfl) : OwnV B e sz f w (.slice (some ⟨g, 0, none⟩) xs.length cap) xs := by
  refine ⟨flat_len hf xs, .inr ⟨g, cap, cs, rfl, hB, hb, hc, hm, hsz, ?_⟩⟩
  have hle : xs.length * sz ≤ cap * sz := Nat.mul_le_mul_right sz hc
  apply List.ext_getElem?
  intro k
  rw [List.getElem?_take]
  by_cases hk : k < (xs.flatMap f).length
  · obtain ⟨i, j, x, hx, hj, rfl⟩ := flat_inv hf xs k _ (List.getElem?_eq_getElem hk)
    rw [flat_len hf] at hk
    rw [if_pos hk, List.getElem?_eq_getElem (l := xs.flatMap f) (by rw [flat_len hf]; exact hk), ← hF i x hx j _ hj]; simp
  · rw [flat_len hf] at hk
    rw [if_neg hk, List.getElem?_eq_none (by rw [flat_len hf]; omega)]
end
end Go.G9
namespace Go.Proofs.YtpkagohflkcnkaaGreatDoor
open Go.RowKit Go.G9
end Go.Proofs.YtpkagohflkcnkaaGreatDoor
/- Marks in slices of numbers. -/
namespace Go.Proofs.YtpkagohflkcnkaaGreatDoor
open Go.RowKit Go.G9
end Go.Proofs.YtpkagohflkcnkaaGreatDoor
/- Slices of the call's own that lie between two numbers of blocks; worlds that have turned in some of them. -/
namespace Go.G9
open Go.RowKit
def Within (vs : List Value) (a b : Nat) : Prop := ∀ v ∈ vs, ∀ k, v.ownBlock = some k → a ≤ k ∧ k < b
/-- As w was, but for the blocks of vs. -/
structure GrownL (w w' : World) (vs : List Value) : Prop where
  os : w'.os = w.os
  tape : w'.tape = w.tape
  output : w'.output = w.output
  size : w.heap.size ≤ w'.heap.size
  block : ∀ i, i < w.heap.size → (∀ v ∈ vs, v.ownBlock ≠ some i) → w'.heap[i]? = w.heap[i]?
theorem grownL_one {w w' : World} {v : Value} (h : w.grownBy w' v.ownBlock) : GrownL w w' [v] :=
  ⟨h.os, h.tape, h.output, h.size, fun i hi hv => h.block i hi (fun e => hv v (List.mem_singleton.2 rfl) e.symm)⟩
theorem GrownL.trans {w w1 w2 : World} {vs us : List Value} (h : GrownL w w1 vs) (k : GrownL w1 w2 us) : GrownL w w2 (vs ++ us) :=
  ⟨k.os.trans h.os, k.tape.trans h.tape, k.output.trans h.output, Nat.le_trans h.size k.size, fun i hi hv => (k.block i (Nat.lt_of_lt_of_le hi h.size) (fun v hm => hv v (List.mem_append_right _ hm))).trans (h.block i hi (fun v hm => hv v (List.mem_append_left _ hm)))⟩
theorem GrownL.of_below {w w' : World} {vs : List Value} (h : Below w.heap.size w w') : GrownL w w' vs := ⟨h.os, h.tape, h.output, h.size, fun i hi _ => h.block i hi⟩
theorem GrownL.below {w w' : World} {us : List Value} {B c d : Nat} (h : GrownL w w' us) (hu : Within us c d) (hc : B ≤ c) (hB : B ≤ w.heap.size) : Below B w w' :=
  ⟨h.os, h.tape, h.output, h.size, fun i hi => h.block i (Nat.lt_of_lt_of_le hi hB) (fun v hv e => by have := (hu v hv i e).1; omega)⟩
theorem OwnV.keptL {T : Type} {B : Nat} {e : TypeId} {sz : Nat} {f : T → List Value} {w w' : World} {v : Value} {xs : List T} {us vs : List Value} {a b c d : Nat} (h : OwnV B e sz f w v xs) (hg : GrownL w w' us) (hv : Within vs a b) (hu : Within us c d) (hm : v ∈ vs) (hlt : b ≤ c ∨ d ≤ a) :
    OwnV B e sz f w' v xs := by
  have hl := h.lt
  refine ⟨h.1, ?_⟩
  rcases h.2 with hn | ⟨g, cap, cur, rfl, hB, hh, r⟩
  · exact .inl hn
  · have hg1 := hv _ hm g rfl
    exact .inr ⟨g, cap, cur, rfl, hB, by rw [hg.block g (hl g rfl).2 (fun u hu' e => by have := hu u hu' g e; omega)]; exact hh, r⟩
theorem OwnV.keptN {T : Type} {B : Nat} {e : TypeId} {sz : Nat} {f : T → List Value} {w w' : World} {v : Value} {xs : List T} {us : List Value} (h : OwnV B e sz f w v xs) (hg : GrownL w w' us) (hne : ∀ k, v.ownBlock = some k → ∀ u ∈ us, u.ownBlock ≠ some k) : OwnV B e sz f w' v xs := by
  have hl := h.lt
  refine ⟨h.1, ?_⟩
  rcases h.2 with hn | ⟨g, cap, cur, rfl, hB, hh, r⟩
  · exact .inl hn
  · exact .inr ⟨g, cap, cur, rfl, hB, by rw [hg.block g (hl g rfl).2 (hne g rfl)]; exact hh, r⟩
theorem Blk.keptL {w w' : World} {g : Nat} {t : TypeId} {cs : Array Value} {us : List Value} {c d : Nat} (h : Blk w g t cs) (hg : GrownL w w' us) (hu : Within us c d) (hlt : g < c ∨ d ≤ g) : Blk w' g t cs :=
  (hg.block g h.lt (fun u hu' e => by have := hu u hu' g e; omega)).trans h
/-- No two of these values own one block. -/
def Apart (vs : List Value) : Prop := vs.Pairwise fun u v => ∀ k, u.ownBlock = some k → some k ≠ v.ownBlock
theorem Apart.at {vs : List Value} (h : Apart vs) {i j : Nat} (hij : i < j) {u v : Value} (hu : vs[i]? = some u) (hv : vs[j]? = some v) : ∀ k, u.ownBlock = some k → some k ≠ v.ownBlock := by
  obtain ⟨hi, rfl⟩ := List.getElem?_eq_some_iff.1 hu
  obtain ⟨hj, rfl⟩ := List.getElem?_eq_some_iff.1 hv
  exact (List.pairwise_iff_getElem.1 h) i j hi hj hij
theorem apart2 {u v : Value} (h : ∀ k, u.ownBlock = some k → some k ≠ v.ownBlock) : Apart [u, v] :=
  .cons (fun x hx => by simp only [List.mem_singleton] at hx; subst hx; exact h) (.cons (fun _ h => by cases h) .nil)
theorem apart_of {vs : List Value} (h : ∀ (i j : Nat) (u v : Value), i < j → vs[i]? = some u → vs[j]? = some v → ∀ k, u.ownBlock = some k → some k ≠ v.ownBlock) : Apart vs :=
  List.pairwise_iff_getElem.2 fun i j hi hj hij => h i j _ _ hij (List.getElem?_eq_getElem hi) (List.getElem?_eq_getElem hj)
end Go.G9
/- append of one element, and where the new slice lies; a slice just built. -/
namespace Go.G9
open Go.RowKit
theorem wpList_app1 {P : Program} {w : World} {ops : Array Oper} {rest : List Oper} {o : Oper} {a : Act} {Q : Exit → Act → World → Prop} (hgd : o.guard = none) (s x : Operand) (t : TypeId)
    (ho : o.op = .call { callee := .builtin .append, args := #[s, x], argTypes := #[t, t] })
    (B : Nat) (e : TypeId) (i : TypeInfo) (z : Value) (sz bytes : Nat) (ht : P.underlying t = some (.slice e)) (hi : P.info? e = some i) (hz : i.zero = some z)
    (hsize : i.size = sz) (hby : i.bytes = bytes) (hzs : z.cells.size = sz) (hsz : 0 < sz) {T : Type} (f : T → List Value) (hf : ∀ y, (f y).length = sz) (hone : ∀ y u, u ∈ f y → u.oneCell' = true)
    (v : Value) (xs : List T) (hs : a.eval s = v) (hown : OwnV B e sz f w v xs) (ad : Addr) (c2 : Nat) (y : T) (hx : a.eval x = .slice (some ad) 1 c2) (hR : Rds sz f w (some ad) [y])
    (h63 : xs.length + 1 ≤ maxLen) (hbytes : (xs.length + 1) * bytes ≤ 140737488355328) (hbase : B ≤ w.heap.size)
    (h : ∀ v' w', OwnV B e sz f w' v' (xs ++ [y]) → w.grownBy w' v.ownBlock → (v'.ownBlock = v.ownBlock ∨ v'.ownBlock = some w.heap.size) → wpList P ops Q rest (a.put o.dst v') w') : wpList P ops Q (o :: rest) a w := by
  refine wpList_append_own_at w hgd s x t ho B e i z sz bytes ht hi hz hsize hby hzs hsz v xs.length (xs.flatMap f) hs hown ad 1 c2 ([y].flatMap f) hx (by rw [flat_len hf]; simp) (fun j u hu => Rds.flat hR hf j u hu)
    (fun u hu => by obtain ⟨y', _, hy⟩ := List.mem_flatMap.1 hu; exact hone y' u hy) h63 hbytes hbase (fun v' w' h1 h2 _ h4 => h v' w' ?_ h2 h4)
  unfold OwnV; rw [List.length_append, List.flatMap_append]; exact h1
/-- A slice that has just been built of its elements. -/
theorem OwnV.built {T : Type} {B sz : Nat} {f : T → List Value} (w : World) (xs : List T) (e : TypeId) (hB : B ≤ w.heap.size) (hm : xs.length ≤ maxLen) (hf : ∀ y, (f y).length = sz) :
    OwnV B e sz f (w.alloc (.cells (xs.flatMap f).toArray e)) (.slice (some ⟨w.heap.size, 0, none⟩) xs.length xs.length) xs :=
  OwnV.ofBlk (Blk.new w e _) hB (Nat.le_refl _) hm (by simp [flat_len hf]) (fun i x hx j u hu => by simpa using flat_get hf xs i x hx j u hu) hf
/-- Two slices of the call's own do not share a block. -/
def Ne2 (u v : Value) : Prop := ∀ k, u.ownBlock = some k → v.ownBlock ≠ some k
theorem Ne2.symm {u v : Value} (h : Ne2 u v) : Ne2 v u := fun k h1 h2 => h k h2 h1
theorem Ne2.step {u u' v : Value} {H : Nat} (h : Ne2 u v) (hv : ∀ k, v.ownBlock = some k → k < H) (ha : u'.ownBlock = u.ownBlock ∨ u'.ownBlock = some H) : Ne2 u' v := fun k h1 h2 => by
  rcases ha with ha | ha
  · exact h k (ha ▸ h1) h2
  · rw [ha] at h1; have := hv k h2; injection h1 with h1; omega
theorem OwnV.ne {T : Type} {B sz : Nat} {e : TypeId} {f : T → List Value} {w w' : World} {u v : Value} {xs : List T} (h : OwnV B e sz f w v xs) (hg : w.grownBy w' u.ownBlock) (hn : Ne2 u v) : OwnV B e sz f w' v xs :=
  h.kept hg (fun k h1 h2 => hn k h2.symm h1)


end Go.G9
/- A row of a slice: clearing, room, what lies behind. (Out of XDel.) -/
namespace Go.G9
open Go.RowKit
theorem Blk.setRow {w : World} {g : Nat} {t : TypeId} {cs cs' : Array Value} (h : Blk w g t cs) : Blk (w.setRow g cs') g t cs' := setRow_heap w g cs cs' t (0, 0) h
theorem grown_row {w : World} {g : Nat} {cs' : Array Value} : w.grownBy (w.setRow g cs') (some g) :=
  ⟨rfl, rfl, rfl, by simp, fun i _ hne => by
    unfold World.setRow
    simp only [Array.getElem?_modify]
    rw [if_neg (fun e => hne (by rw [e]))]⟩
/-- append within the room of a block that is known whole. -/
theorem wpList_roomB {P : Program} {w : World} {ops : Array Oper} {rest : List Oper} {o : Oper} {a : Act} {Q : Exit → Act → World → Prop} (hgd : o.guard = none) (s x : Operand) (t : TypeId)
    (ho : o.op = .call { callee := .builtin .append, args := #[s, x], argTypes := #[t, t] })
    (e : TypeId) (i : TypeInfo) (ht : P.underlying t = some (.slice e)) (hi : P.info? e = some i) (g n cap : Nat) (cur : Array Value) (hs : a.eval s = .slice (some ⟨g, 0, none⟩) n cap) (hg : Blk w g e cur)
    (ad : Addr) (m c : Nat) (news : List Value) (hx : a.eval x = .slice (some ad) m c) (hl : news.length = m * i.size) (hnews : ∀ j u, news[j]? = some u → w.cell? (ad.add j) = some u) (h1 : ∀ u ∈ news, u.oneCell' = true)
    (hroom : n + m ≤ cap) (hfit : n * i.size + news.length ≤ cur.size)
    (h : ∀ (W' : World) (cs' : List Value), cs' = cur.toList.take (n * i.size) ++ news ++ cur.toList.drop (n * i.size + news.length) → Blk W' g e cs'.toArray → w.grownBy W' (some g) → wpList P ops Q rest (a.put o.dst (.slice (some ⟨g, 0, none⟩) (n + m) cap)) W') : wpList P ops Q (o :: rest) a w := by
  refine wpList_plain hgd fun _ hK => ?_
  have hr := run_append_room (P := P) w t o.type e i ht hi g n cap cur hg ad m c news hl hnews h1 hroom hfit
  unfold Oper.wp execOp
  simp only [ho, resolve, invoke, builtin, Sem.run_bind, Sem.run_pure, Result.andThen_ok, List.map_toArray, List.map_cons, List.map_nil, hs, hx, hr]
  exact hK _ _ (h _ _ rfl hg.setRow grown_row)
/-- clear of a window of a block that is known whole. -/
theorem run_clearB {P : Program} {w : World} (t ty e : TypeId) (z : Value) (ht : P.underlying t = some (.slice e)) (hv : ∀ w, (zeroValue e).run P w = .ok z w) (h1 : ∀ u ∈ z.cells.toList, u.oneCell' = true) (hz0 : 0 < z.cells.size)
    (g k n : Nat) (cur : List Value) (hn : 0 < n) (hg : Blk w g e cur.toArray) (hfit : k + n * z.cells.size ≤ cur.length) :
    ∃ (zs cs' : List Value), zs.length = n * z.cells.size ∧ cs' = cur.take k ++ zs ++ cur.drop (k + n * z.cells.size) ∧ ∀ c, (Builtin.clear_ #[t] ty #[.slice (some ⟨g, k, none⟩) n c]).run P w = .ok (.tuple #[]) (w.setRow g cs'.toArray) := by
  have hzl : (Builtin.zeroCells z.cells n).toList.length = n * z.cells.size := by simp [Builtin.zeroCells]
  have hz1 : ∀ v ∈ (Builtin.zeroCells z.cells n).toList, v.oneCell' = true := by
    intro v hv'
    simp only [Builtin.zeroCells, Array.toList_map, List.mem_map] at hv'
    obtain ⟨j, _, rfl⟩ := hv'
    have hj : j % z.cells.size < z.cells.size := Nat.mod_lt _ hz0
    rw [getElem!_pos z.cells (j % z.cells.size) hj]
    exact h1 _ (by simp)
  have hst := run_storeCells_at (P := P) g k e (Builtin.zeroCells z.cells n).toList 0 cur.toArray w hg (by rw [hzl]; simp; omega) hz1
  simp only [Nat.add_zero, hzl] at hst
  obtain ⟨m, rfl⟩ : ∃ m, n = m + 1 := ⟨n - 1, by omega⟩
  refine ⟨_, _, hzl, rfl, fun c => ?_⟩
  simp [Builtin.clear_, run_underlying ht, hv, hst]
theorem OwnV.whole {T : Type} {B sz : Nat} {f : T → List Value} {e : TypeId} {w : World} {v : Value} {xs : List T} (hO : OwnV B e sz f w v xs) (hf : ∀ y, (f y).length = sz) (hn : 0 < xs.length) :
    ∃ g cap cs, v = .slice (some ⟨g, 0, none⟩) xs.length cap ∧ B ≤ g ∧ Blk w g e cs ∧ xs.length ≤ cap ∧ cap ≤ maxLen ∧ cs.size = cap * sz ∧ ∀ i x, xs[i]? = some x → ∀ j u, (f x)[j]? = some u → cs[i * sz + j]? = some u := by
  rcases hO.2 with ⟨_, h0⟩ | ⟨g, cap, cur, hv, hB, hh, hnc, hcm, hcs, htake⟩
  · omega
  · refine ⟨g, cap, cur, hv, hB, hh, hnc, hcm, hcs, fun i x hx j u hu => ?_⟩
    have h1 := flat_get hf xs i x hx j u hu
    rw [← htake, List.getElem?_take] at h1
    split at h1
    · simpa using h1
    · cases h1
theorem flat_drop {T : Type} {sz : Nat} {f : T → List Value} (hf : ∀ y, (f y).length = sz) (xs : List T) (k j : Nat) (u : Value) (h : ((xs.drop k).flatMap f)[j]? = some u) : (xs.flatMap f)[k * sz + j]? = some u := by
  obtain ⟨i, j', x, hx, hj, rfl⟩ := flat_inv hf _ _ _ h
  rw [List.getElem?_drop] at hx
  have := flat_get hf xs (k + i) x hx j' u hj
  rwa [Nat.add_mul, Nat.add_assoc] at this
/-- The cells of a row with one element taken out, and the end overwritten. -/
theorem del_cells {T : Type} {sz : Nat} {f : T → List Value} (hf : ∀ y, (f y).length = sz) (hsz : 0 < sz) (xs : List T) (i : Nat) (hi : i < xs.length) (cs : Array Value) (hcs : xs.length * sz ≤ cs.size)
    (hF : ∀ i x, xs[i]? = some x → ∀ j u, (f x)[j]? = some u → cs[i * sz + j]? = some u) (zs : List Value) (hz : zs.length = sz) (cs' cs'' : List Value)
    (h1 : cs' = cs.toList.take (i * sz) ++ (xs.drop (i + 1)).flatMap f ++ cs.toList.drop (i * sz + ((xs.drop (i + 1)).flatMap f).length)) (h2 : cs'' = cs'.take ((xs.length - 1) * sz) ++ zs ++ cs'.drop ((xs.length - 1) * sz + sz)) :
    cs''.length = cs.size ∧ ∀ k x, (xs.eraseIdx i)[k]? = some x → ∀ j u, (f x)[j]? = some u → cs''[k * sz + j]? = some u := by
  have hfl : ((xs.drop (i + 1)).flatMap f).length = (xs.length - (i + 1)) * sz := by rw [flat_len hf]; simp
  have hle : xs.length * sz = i * sz + sz + (xs.length - (i + 1)) * sz := by
    conv => lhs; rw [show xs.length = i + 1 + (xs.length - (i + 1)) by omega, Nat.add_mul, Nat.add_mul, Nat.one_mul]
  have hle2 : (xs.length - 1) * sz = i * sz + (xs.length - (i + 1)) * sz := by
    conv => lhs; rw [show xs.length - 1 = i + (xs.length - (i + 1)) by omega, Nat.add_mul]
  have hl1 : cs'.length = cs.size := by
    rw [h1]; simp only [List.length_append, List.length_take, List.length_drop, Array.length_toList, hfl]; omega
  have hl2 : cs''.length = cs.size := by
    rw [h2]; simp only [List.length_append, List.length_take, List.length_drop, hl1, hz]; omega
  refine ⟨hl2, fun k x hx j u hu => ?_⟩
  have hj : j < sz := by have := hf x; have := (List.getElem?_eq_some_iff.1 hu).1; omega
  have hk : k < xs.length - 1 := by have := (List.getElem?_eq_some_iff.1 hx).1; rw [List.length_eraseIdx] at this; split at this <;> omega
  have hkj : k * sz + j < (xs.length - 1) * sz := by
    have : (k + 1) * sz ≤ (xs.length - 1) * sz := Nat.mul_le_mul_right sz (by omega)
    rw [Nat.add_mul, Nat.one_mul] at this; omega
  have e1 : cs''[k * sz + j]? = cs'[k * sz + j]? := by
    rw [h2, List.append_assoc, List.getElem?_append_left (by rw [List.length_take, hl1]; omega), List.getElem?_take, if_pos hkj]
  rw [e1, h1, List.append_assoc]
  rw [List.getElem?_eraseIdx] at hx
  have hil : (cs.toList.take (i * sz)).length = i * sz := by rw [List.length_take, Array.length_toList]; omega
  split at hx
  · rename_i hki
    have : (k + 1) * sz ≤ i * sz := Nat.mul_le_mul_right sz (by omega)
    rw [Nat.add_mul, Nat.one_mul] at this
    rw [List.getElem?_append_left (by rw [hil]; omega), List.getElem?_take, if_pos (by omega)]
    have := hF k x hx j u hu
    simpa using this
  · rename_i hki
    have hik : i * sz ≤ k * sz := Nat.mul_le_mul_right sz (by omega)
    rw [List.getElem?_append_right (by rw [hil]; omega), hil]
    have h3 : (xs.drop (i + 1))[k - i]? = some x := by rw [List.getElem?_drop, show i + 1 + (k - i) = k + 1 by omega]; exact hx
    have h4 := flat_get hf _ _ _ h3 j u hu
    have e2 : k * sz + j - i * sz = (k - i) * sz + j := by rw [Nat.sub_mul]; omega
    rw [e2, List.getElem?_append_left (List.getElem?_eq_some_iff.1 h4).1]
    exact h4
end Go.G9
/- append to an empty slice without room: it makes memory, it writes nothing. -/
namespace Go.G9
open Go.RowKit
theorem wpList_appE {P : Program} {w : World} {ops : Array Oper} {rest : List Oper} {o : Oper} {a : Act} {Q : Exit → Act → World → Prop} (hgd : o.guard = none) (s x : Operand) (t : TypeId)
    (ho : o.op = .call { callee := .builtin .append, args := #[s, x], argTypes := #[t, t] })
    (B : Nat) (e : TypeId) (i : TypeInfo) (z : Value) (sz bytes : Nat) (ht : P.underlying t = some (.slice e)) (hi : P.info? e = some i) (hz : i.zero = some z)
    (hsize : i.size = sz) (hby : i.bytes = bytes) (hzs : z.cells.size = sz) (hsz : 0 < sz) {T : Type} (f : T → List Value) (hf : ∀ y, (f y).length = sz) (_hone : ∀ y u, u ∈ f y → u.oneCell' = true)
    (g : Nat) (hs : a.eval s = .slice (some ⟨g, 0, none⟩) 0 0) (hg : Blk w g e #[]) (hBg : B ≤ g) (ad : Addr) (c2 : Nat) (ys : List T) (hx : a.eval x = .slice (some ad) ys.length c2) (hR : Rds sz f w (some ad) ys)
    (h63 : ys.length ≤ maxLen) (hbytes : ys.length * bytes ≤ 140737488355328)
    (h : ∀ g' c' w', OwnV B e sz f w' (.slice (some ⟨g', 0, none⟩) ys.length c') ys → Below w.heap.size w w' → (g' = g ∨ w.heap.size ≤ g') → wpList P ops Q rest (a.put o.dst (.slice (some ⟨g', 0, none⟩) ys.length c')) w') : wpList P ops Q (o :: rest) a w := by
  rcases Nat.eq_zero_or_pos ys.length with h0 | h0
  · have hy : ys = [] := List.length_eq_zero_iff.1 h0
    subst hy
    refine wpList_roomB hgd s x t ho e i ht hi g 0 0 #[] hs hg ad 0 c2 [] hx (by simp) (fun j u hu => by simp at hu) (fun u hu => by simp at hu) (by omega) (by simp) fun W' cs' hcs hb hgr => ?_
    have hcs' : cs' = [] := by rw [hcs]; simp
    subst hcs'
    have hb' : Blk W' g e #[] := hb
    refine h g 0 W' ?_ ⟨hgr.os, hgr.tape, hgr.output, hgr.size, fun k hk => ?_⟩ (.inl rfl)
    · exact OwnV.filled (xs := []) hb' hBg (by simp) (by unfold maxLen; simp) (by simp) hf
    · by_cases hkg : k = g
      · subst hkg; exact Eq.trans hb' (Eq.symm hg)
      · exact hgr.block k hk (fun e => hkg (Option.some.inj e))
  · subst hsize; subst hby
    have hge := grownCap_ge w (0 + ys.length) 0 e
    have hcm := grownCap_le_maxLen w (0 + ys.length) 0 e (by omega)
    have hml := h63
    unfold maxLen at hml
    have hr := run_append_grow (P := P) w t o.type e i z ht hi hz ⟨g, 0, none⟩ 0 0 [] (by simp) (by intro j v hj; simp at hj) ad ys.length c2 (ys.flatMap f) (flat_len hf ys) (fun j u hu => Rds.flat hR hf j u hu)
      (by omega) (by omega) (by rw [Nat.zero_add, nextslicecap_zero h0]; omega)
    refine wpList_plain hgd fun _ hK => ?_
    unfold Oper.wp execOp
    simp only [ho, resolve, invoke, builtin, Sem.run_bind, Sem.run_pure, Result.andThen_ok, List.map_toArray, List.map_cons, List.map_nil, hs, hx, hr]
    refine hK _ _ ?_
    rw [Nat.zero_add]
    rw [Nat.zero_add] at hge hcm
    refine h w.heap.size _ _ ?_ ⟨rfl, rfl, rfl, by simp, fun k hk => (bl1 w.drew _).block k hk⟩ (.inr (Nat.le_refl _))
    refine ⟨flat_len hf ys, .inr ⟨w.heap.size, _, _, rfl, Nat.le_trans hBg (Nat.le_of_lt (Array.getElem?_eq_some_iff.1 hg).1), (Blk.new w.drew _ _), hge, hcm, ?_, ?_⟩⟩
    · simp only [Array.size_append, List.size_toArray, size_zeroCells, hzs, flat_len hf, List.length_nil, Nat.zero_add, ← Nat.add_mul]
      congr 1
      omega
    · simp [flat_len hf]
end Go.G9
/- Results of votes: validity, copies, comparisons. -/
namespace Go.Proofs.YtpkagohflkcnkaaGreatDoor
open Go.RowKit Go.G9
structure Res where
  motion : ByteArray
  need : Int
  yes : Int
  no : Int
  abst : Int
  ok : motion.size ≤ maxLen
def Res.cells (r : Res) : List Value := [.string r.motion, .int .i64 r.need, .int .i64 r.yes, .int .i64 r.no, .int .i64 r.abst]
def tallyB (y n a : Int) : Bool := inB y 0 1000 && (inB n 0 1000 && inB a 0 1000)
def resB (r : Res) : Bool := wordB r.motion && (inB r.need 1 3 && tallyB r.yes r.no r.abst)
def reportB (xs : List Res) : Bool := decide (xs.length ≤ 12) && !xs.any (fun r => !resB r)
theorem isNeed_is (n : Int) (v : Bool) (hv : inB n 1 3 = v) (w : World) : Calls Tryz.prog 111 #[.int .i64 n] w fun e w' => e = .returned (.bool v) ∧ w' = w := by
  subst hv
  go_enter Tryz.func111, Tryz.ntmps111
  go_wp2_with (go_at_call 67; refine (inside_is _ _ _ _ rfl _).mono ?_; rintro e w' ⟨rfl, rfl⟩)
  go_ret
  exact ⟨rfl, rfl⟩
end Go.Proofs.YtpkagohflkcnkaaGreatDoor
/- Decided questions: validity. -/
namespace Go.Proofs.YtpkagohflkcnkaaGreatDoor
open Go.RowKit Go.G9
structure Dec where
  id : Int
  day : Int
  need : Int
  yes : List Int
  no : List Int
  done : Bool
def sidesB (ys ns : List Int) : Bool := decide (ys.length ≤ 30) && (decide (ns.length ≤ 30) && (ascB ys 1 99 && (ascB ns 1 99 && !ys.any (hasB ns))))
def decB (d : Dec) : Bool := inB d.id 1 99 && (inB d.day 0 3650 && (inB d.need 1 3 && sidesB d.yes d.no))
end Go.Proofs.YtpkagohflkcnkaaGreatDoor
/- Decided questions: validity of a decided question, copies, comparisons. -/
namespace Go.Proofs.YtpkagohflkcnkaaGreatDoor
open Go.RowKit Go.G9
theorem Blk.far {w : World} {g : Nat} {t : TypeId} {cs : Array Value} (h : Blk w g t cs) {p : Addr} (hp : g ≠ p.block) (u : Value) : Blk (w.setCell p u) g t cs := (Below.heap_setCell w p u g hp).trans h
theorem OwnV.low {T : Type} {B : Nat} {e : TypeId} {sz : Nat} {f : T → List Value} {w : World} {v : Value} {xs : List T} (h : OwnV B e sz f w v xs) {p : Addr} (hp : p.block < B) {u : Value} : OwnV B e sz f (w.setCell p u) v xs := ownsRow_setCell_below h hp u
end Go.Proofs.YtpkagohflkcnkaaGreatDoor
/- Rules: validity, the index of a rule, copies, comparisons. -/
namespace Go.Proofs.YtpkagohflkcnkaaGreatDoor
open Go.RowKit Go.G9
structure Rul where
  id : Int
  name : ByteArray
  rank : Int
  second : Bool
  debate : Bool
  amend : Bool
  need : Int
  ok : name.size ≤ maxLen
def Rul.cells (r : Rul) : List Value := [.int .i64 r.id, .string r.name, .int .i64 r.rank, .bool r.second, .bool r.debate, .bool r.amend, .int .i64 r.need]
structure Que where
  rule : Int
  mover : Int
  sec : Bool
def Que.cells (q : Que) : List Value := [.int .i64 q.rule, .int .i64 q.mover, .bool q.sec]
structure Sha where
  mem : Int
  turns : Int
  secs : Int
def Sha.cells (s : Sha) : List Value := [.int .i64 s.mem, .int .i64 s.turns, .int .i64 s.secs]
structure Out where
  rule : Int
  mover : Int
  ado : Bool
def Out.cells (o : Out) : List Value := [.int .i64 o.rule, .int .i64 o.mover, .bool o.ado]
def ruleB (r : Rul) : Bool := inB r.id 1 20 && (wordB r.name && (inB r.rank 0 9 && inB r.need 1 3))
def ruleStep (xs : List Rul) : Nat → Bool
  | 0 => match xs[0]? with | some x => ruleB x | none => true
  | j + 1 => match xs[j]?, xs[j+1]? with | some y, some x => ruleB x && (decide (y.id < x.id) && !(xs.take (j + 1)).any (fun z => z.name.toList == x.name.toList)) | _, _ => true
def rulesB (xs : List Rul) : Bool := allTo (ruleStep xs) xs.length && decide (xs.length ≤ 8)
theorem isValidRule_is (r : Rul) (v : Bool) (hv : ruleB r = v) (w : World) : Calls Tryz.prog 93 #[.agg #[.int .i64 r.id, .string r.name, .int .i64 r.rank, .bool r.second, .bool r.debate, .bool r.amend, .int .i64 r.need]] w fun e w' => e = .returned (.bool v) ∧ Below w.heap.size w w' := by
  subst hv
  obtain ⟨id, nm, rk, s, d, a, nd, hs⟩ := r
  go_enter Tryz.func93, Tryz.ntmps93
  go_wp2_with (first | (go_at_call 67; refine (inside_is _ _ _ _ rfl _).mono ?_; rintro e w' ⟨rfl, rfl⟩) | (go_at_call 110; refine (isWord_is _ hs _ rfl _).mono ?_; rintro e w' ⟨rfl, rfl⟩) | (go_at_call 111; refine (isNeed_is _ _ rfl _).mono ?_; rintro e w' ⟨rfl, rfl⟩))
  all_goals go_ret
  all_goals exact ⟨by simp [ruleB, *], bl1 _ _⟩
theorem l2Single_is (r : Rul) (v : Bool) (hv : ruleB r = v) (w : World) : Calls Tryz.prog 107 #[.agg #[.int .i64 r.id, .string r.name, .int .i64 r.rank, .bool r.second, .bool r.debate, .bool r.amend, .int .i64 r.need]] w fun e w' => e = .returned (.bool v) ∧ Below w.heap.size w w' := by
  subst hv
  obtain ⟨id, nm, rk, s, d, a, nd, hs⟩ := r
  go_enter Tryz.func107, Tryz.ntmps107
  go_wp2_with (first | (go_at_call 85; refine (l1In_is _ _ _ _ rfl _).mono ?_; rintro e w' ⟨rfl, rfl⟩) | (go_at_call 121; refine (l2Word_is _ hs _ rfl _).mono ?_; rintro e w' ⟨rfl, rfl⟩))
  all_goals go_ret
  all_goals exact ⟨by simp [ruleB, *], bl1 _ _⟩
set_option maxHeartbeats 1000000 in
set_option maxRecDepth 100000 in
theorem indexFunc_Rul (A : Option Addr) (c : Nat) (xs : List Rul) (hn : xs.length ≤ 1048576) (f : FuncId) (cv : Array Value) (hcall : ∀ args W, (callFunc f args).run Tryz.prog W = .ok (.enter f args) W) (p : Rul → Bool) (v : Int) (hv : idxB p xs = v) (w : World) (hR : Rds 7 Rul.cells w A xs)
    (hf : ∀ x, x ∈ xs → ∀ W, Below w.heap.size w W → Calls Tryz.prog f (#[.agg #[.int .i64 x.id, .string x.name, .int .i64 x.rank, .bool x.second, .bool x.debate, .bool x.amend, .int .i64 x.need]] ++ cv) W fun e w' => e = .returned (.bool (p x)) ∧ Below W.heap.size W w') :
  Calls Tryz.prog 72 #[.slice A xs.length c, .func (.func f) #[] cv] w fun e w' => e = .returned (.int .i64 v) ∧ Below w.heap.size w w' := by
  subst hv
  have HF := Lib.hid hf; clear hf
  go_enter Tryz.func72, Tryz.ntmps72
  go_wp2
  go_loopw [8] (fun i wr => ∃ k : Nat, k ≤ xs.length ∧ i = .int .i64 k ∧ allTo (fun i => !atB p xs i) k = true ∧ Below w.heap.size w wr) (fun i _ => xs.length - (intOf i).toNat)
  case atStart => exact ⟨0, Nat.zero_le _, rfl, rfl, Below.refl _ _⟩
  case round =>
    obtain ⟨k, hk, rfl, hl, hb⟩ := hrel
    have HL := Lib.hid hl; clear hl
    by_cases hlt : k < xs.length
    · obtain ⟨b, off, x, rfl, hbl, hx, hcx⟩ := hR.at_ hb hlt
      have HF' := Lib.hid (HF.out x (List.mem_of_getElem? hx))
      obtain ⟨rid, rnm, rrk, rse, rde, ram, rnd, rhs⟩ := x
      have f0 := hcx 0 _ rfl
      have f1 := hcx 1 _ rfl
      have f2 := hcx 2 _ rfl
      have f3 := hcx 3 _ rfl
      have f4 := hcx 4 _ rfl
      have f5 := hcx 5 _ rfl
      have f6 := hcx 6 _ rfl
      simp only [Nat.add_zero] at f0
      have g0 := f0 (Kin.self _)
      have g1 := f1 (Kin.self _)
      have g2 := f2 (Kin.self _)
      have g3 := f3 (Kin.self _)
      have g4 := f4 (Kin.self _)
      have g5 := f5 (Kin.self _)
      have g6 := f6 (Kin.self _)
      simp only [Kin.self] at g0
      simp only [Kin.self] at g1
      simp only [Kin.self] at g2
      simp only [Kin.self] at g3
      simp only [Kin.self] at g4
      simp only [Kin.self] at g5
      simp only [Kin.self] at g6
      have HX := Lib.hid hx; clear hx hcx
      go_wp2_with fail
      refine (HF'.out _ hb).mono ?_
      rintro e w' ⟨rfl, hb'⟩
      cases hp : p ⟨rid, rnm, rrk, rse, rde, ram, rnd, rhs⟩
      · go_wp2
        go_roundw
        case rel => exact ⟨k + 1, by omega, by go_num, allTo_go HL.out (by simp [atB, HX.out, hp]), bth hb hb'⟩
        case measure => simp [intOf]; omega
      · go_wp2
        go_ret
        exact ⟨ret_int (idxB_found hlt HL.out (by simp [atB, HX.out, hp])).symm, bth hb hb'⟩
    · obtain rfl : k = xs.length := by omega
      go_wp2
      go_ret
      exact ⟨ret_int (idxB_none HL.out).symm, hb⟩
theorem containsFunc_Rul (A : Option Addr) (c : Nat) (xs : List Rul) (hn : xs.length ≤ 1048576) (f : FuncId) (cv : Array Value) (hcall : ∀ args W, (callFunc f args).run Tryz.prog W = .ok (.enter f args) W) (p : Rul → Bool) (v : Bool) (hv : xs.any p = v) (w : World) (hR : Rds 7 Rul.cells w A xs)
    (hf : ∀ x, x ∈ xs → ∀ W, Below w.heap.size w W → Calls Tryz.prog f (#[.agg #[.int .i64 x.id, .string x.name, .int .i64 x.rank, .bool x.second, .bool x.debate, .bool x.amend, .int .i64 x.need]] ++ cv) W fun e w' => e = .returned (.bool (p x)) ∧ Below W.heap.size W w') :
  Calls Tryz.prog 94 #[.slice A xs.length c, .func (.func f) #[] cv] w fun e w' => e = .returned (.bool v) ∧ Below w.heap.size w w' := by
  subst hv
  have HF := Lib.hid hf; clear hf
  have hg := idxB_ge p xs
  have HG := Lib.hid hg; clear hg
  go_enter Tryz.func94, Tryz.ntmps94
  go_wp2_with fail
  refine (indexFunc_Rul A c xs hn f cv hcall p _ rfl _ hR HF.out).mono ?_
  rintro e w' ⟨rfl, hb⟩
  go_wp2
  go_ret
  exact ⟨ret_bool HG.out, hb⟩
theorem ruleIdxF_is (id : Int) (g : Nat) (x : Rul) (W : World) (hg : W.cell? ⟨g, 0, none⟩ = some (.int .i64 id)) (hl : g < W.heap.size) :
  Calls Tryz.prog 73 (#[.agg #[.int .i64 x.id, .string x.name, .int .i64 x.rank, .bool x.second, .bool x.debate, .bool x.amend, .int .i64 x.need]] ++ #[.pointer (some ⟨g, 0, none⟩)]) W fun e w' => e = .returned (.bool (x.id == id)) ∧ Below W.heap.size W w' := by
  cases hb : x.id == id
  all_goals
    have hb2 := Lib.hid hb
    go_enter Tryz.func73, Tryz.ntmps73
    go_wp2
    go_ret
    exact ⟨rfl, bl1 _ _⟩
theorem ruleIndex_is (A : Option Addr) (c : Nat) (xs : List Rul) (hn : xs.length ≤ 1048576) (id : Int) (v : Int) (hv : idxB (fun r => r.id == id) xs = v) (w : World) (hR : Rds 7 Rul.cells w A xs) :
  Calls Tryz.prog 41 #[.slice A xs.length c, .int .i64 id] w fun e w' => e = .returned (.int .i64 v) ∧ Below w.heap.size w w' := by
  have hf : ∀ x, x ∈ xs → ∀ W, Below (w.alloc (.cells #[.int .i64 id] 3)).heap.size (w.alloc (.cells #[.int .i64 id] 3)) W → Calls Tryz.prog 73 (#[.agg #[.int .i64 x.id, .string x.name, .int .i64 x.rank, .bool x.second, .bool x.debate, .bool x.amend, .int .i64 x.need]] ++ #[.pointer (some ⟨w.heap.size, 0, none⟩)]) W fun e w' => e = .returned (.bool (x.id == id)) ∧ Below W.heap.size W w' := fun x _ W hW => by
    have hB := Blk.below (Blk.new w 3 #[.int .i64 id]) hW (by simp)
    exact ruleIdxF_is id w.heap.size x W (hB.cell 0) hB.lt
  have hidx := indexFunc_Rul A c xs hn 73 #[.pointer (some ⟨w.heap.size, 0, none⟩)] (run_enter Tryz.func73 (by kernel_rfl) (by kernel_rfl)) (fun r => r.id == id) v hv (w.alloc (.cells #[.int .i64 id] 3)) (hR.below (bl1 _ _)) hf
  have HI := Lib.hid hidx; clear hidx hf hv
  go_enter Tryz.func41, Tryz.ntmps41
  go_wp2_with fail
  refine HI.out.mono ?_
  rintro e w1 ⟨rfl, hb⟩
  go_wp2
  go_ret
  exact ⟨rfl, bth (bl1 _ _) hb⟩
set_option maxHeartbeats 1000000 in
theorem l2Find_is (A : Option Addr) (c : Nat) (xs : List Rul) (hn : xs.length ≤ 1048576) (id : Int) (v : Int) (hv : idxB (fun r => r.id == id) xs = v) (w : World) (hR : Rds 7 Rul.cells w A xs) :
  Calls Tryz.prog 22 #[.slice A xs.length c, .int .i64 id] w fun e w' => e = .returned (.int .i64 v) ∧ w' = w := by
  subst hv
  go_enter Tryz.func22, Tryz.ntmps22
  go_wp2
  go_loop [5] (fun i => ∃ k : Nat, k ≤ xs.length ∧ i = .int .i64 k ∧ allTo (fun i => !atB (fun r : Rul => r.id == id) xs i) k = true) (fun i => xs.length - (intOf i).toNat)
  case atStart => exact ⟨0, Nat.zero_le _, rfl, rfl⟩
  case round =>
    obtain ⟨k, hk, rfl, hl⟩ := hrel
    have HL := Lib.hid hl; clear hl
    by_cases hlt : k < xs.length
    · obtain ⟨b, off, x, rfl, hbl, hx, hcx⟩ := hR.at_ (Below.refl _ _) hlt
      obtain ⟨xid, nm, rk, s, d, a, nd, hs⟩ := x
      have g0 := hcx 0 _ rfl (Kin.self _)
      simp only [Nat.add_zero, Kin.self] at g0
      have HX := Lib.hid hx; clear hx hcx
      by_cases he : xid = id
      · have he' : (xid == id) = true := beq_iff_eq.2 he
        have HE := Lib.hid he'
        go_wp2
        go_ret
        exact ⟨ret_int (idxB_found hlt HL.out (by simp [atB, HX.out, HE.out])).symm, rfl⟩
      · have he' : (xid == id) = false := beq_eq_false_iff_ne.2 he
        go_wp2
        go_round
        case rel => exact ⟨k + 1, by omega, by go_num, allTo_go HL.out (by simp [atB, HX.out, he'])⟩
        case measure => simp [intOf]; omega
    · obtain rfl : k = xs.length := by omega
      go_wp2
      go_ret
      exact ⟨ret_int (idxB_none HL.out).symm, rfl⟩
end Go.Proofs.YtpkagohflkcnkaaGreatDoor
