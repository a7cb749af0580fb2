/- A console's text: the program's answer is the reference's, for all arguments. -/
import Derived.Test.YtpkagohflkcnkaaGreatDoorIv6
import Derived.Test.YtpkagohflkcnkaaGreatDoorIv2
import Derived.Test.YtpkagohflkcnkaaGreatDoorIv4
import Derived.Deep.Cut
import Derived.Test.YtpkagohflkcnkaaGreatDoorIv1
import Derived.Outline
import Derived.Test.YtpkagohflkcnkaaGreatDoorIv19
import Derived.Test.YtpkagohflkcnkaaGreatDoorIv3
import Derived.Deep.RegionHeld3
import Derived.Test.YtpkagohflkcnkaaGreatDoorIv20
/- Moves of pending questions: plain law. -/
namespace Go.Proofs.YtpkagohflkcnkaaGreatDoor
open Go.RowKit Go.G9
/-- The last question's rule, and whether it lacks a second. -/
def lstB (rs : List Rul) (qs : List Que) : Bool := match qs[qs.length - 1]? with
  | some q => (match fnd rs q.rule with | some r => lackB r q | none => false)
  | none => false
def mayL (rs : List Rul) (qs : List Que) : List Int := match qs[qs.length - 1]? with
  | none => rs.map (fun r => r.id)
  | some q => (match fnd rs q.rule with
    | some t => if lackB t q || decide (qs.length = 6) then [] else (rs.filter (fun r => decide (t.rank < r.rank))).map (fun r => r.id)
    | none => [])
def mvQ (rs : List Rul) (qs : List Que) (id mem : Int) : Option (List Que) := if pendB rs qs && (memB mem && hasB (mayL rs qs) id) then some (qs ++ [⟨id, mem, false⟩]) else none
def secd (qs : List Que) : List Que := match qs[qs.length - 1]? with | some q => qs.take (qs.length - 1) ++ [⟨q.rule, q.mover, true⟩] | none => qs
def lstM (qs : List Que) (mem : Int) : Bool := match qs[qs.length - 1]? with | some q => q.mover == mem | none => true
def sdQ (rs : List Rul) (qs : List Que) (mem : Int) : Option (List Que) := if pendB rs qs && (lstB rs qs && (memB mem && !lstM qs mem)) then some (secd qs) else none
def dsQ (rs : List Rul) (qs : List Que) : Option (List Que × Que) := match qs[qs.length - 1]? with
  | some q => if pendB rs qs && !lstB rs qs then some (qs.take (qs.length - 1), q) else none
  | none => none
/-- The last index below k at which the mover is the member. -/
def wdI (qs : List Que) (mem : Int) : Nat → Option Nat
  | 0 => none
  | k + 1 => match qs[k]? with | some q => if q.mover == mem then some k else wdI qs mem k | none => wdI qs mem k
def wdQ (rs : List Rul) (qs : List Que) (mem : Int) : Option (List Que) := if pendB rs qs then (wdI qs mem qs.length).map (fun k => qs.take k) else none
def dpL (rs : List Rul) (qs : List Que) : List Que := if lstB rs qs then qs.take (qs.length - 1) else qs
def dpQ (rs : List Rul) (qs : List Que) : Option (List Que) := if pendB rs qs then some (dpL rs qs) else none
theorem queStep_congr {rs : List Rul} {qs ps : List Que} {i : Nat} (h : ∀ j, j ≤ i → qs[j]? = ps[j]?) : queStep rs qs i = queStep rs ps i := by
  cases i with
  | zero => simp only [queStep, h 0 (Nat.le_refl _)]
  | succ j => simp only [queStep, h j (by omega), h (j + 1) (Nat.le_refl _)]
theorem pendB_parts {rs : List Rul} {qs : List Que} (h : pendB rs qs = true) : rulesB rs = true ∧ qs.length ≤ 6 ∧ ∀ i, i < qs.length → queStep rs qs i = true := by
  simp only [pendB, Bool.and_eq_true, decide_eq_true_eq] at h
  exact ⟨h.1, h.2.1, allTo_iff.1 h.2.2⟩
theorem pendB_of {rs : List Rul} {qs : List Que} (h1 : rulesB rs = true) (h2 : qs.length ≤ 6) (h3 : ∀ i, i < qs.length → queStep rs qs i = true) : pendB rs qs = true := by
  simp only [pendB, Bool.and_eq_true, decide_eq_true_eq]
  exact ⟨h1, h2, allTo_iff.2 h3⟩
theorem pendB_take {rs : List Rul} {qs : List Que} (h : pendB rs qs = true) (k : Nat) : pendB rs (qs.take k) = true := by
  obtain ⟨h1, h2, h3⟩ := pendB_parts h
  refine pendB_of h1 (by rw [List.length_take]; omega) (fun i hi => ?_)
  rw [List.length_take] at hi
  rw [queStep_congr (ps := qs) (fun j hj => by rw [List.getElem?_take, if_pos (by omega)])]
  exact h3 i (by omega)
theorem pendB_snoc {rs : List Rul} {qs : List Que} {q : Que} (h : pendB rs qs = true) (hl : qs.length < 6) (hq : queB rs q = true) (ho : ∀ j p, qs.length = j + 1 → qs[j]? = some p → ordB rs p q = true) : pendB rs (qs ++ [q]) = true := by
  obtain ⟨h1, h2, h3⟩ := pendB_parts h
  refine pendB_of h1 (by simp; omega) (fun i hi => ?_)
  rw [List.length_append, List.length_singleton] at hi
  by_cases hlt : i < qs.length
  · rw [queStep_congr (ps := qs) (fun j hj => by rw [List.getElem?_append_left (by omega)])]
    exact h3 i hlt
  · obtain rfl : i = qs.length := by omega
    have hlast : (qs ++ [q])[qs.length]? = some q := by simp
    cases hn : qs.length with
    | zero => rw [hn] at hlast; rw [queStep_zero hlast]; exact hq
    | succ j =>
      have hp : qs[j]? = some qs[j] := List.getElem?_eq_getElem (by omega)
      rw [hn] at hlast
      rw [queStep_succ (p := qs[j]) (by rw [List.getElem?_append_left (by omega)]; exact hp) hlast, hq, ho j _ hn hp]; rfl
theorem lstB_last {rs : List Rul} {qs : List Que} {j : Nat} {q : Que} {r : Rul} (hl : qs.length = j + 1) (hq : qs[j]? = some q) (hr : fnd rs q.rule = some r) : lstB rs qs = lackB r q := by
  have : qs.length - 1 = j := by omega
  simp only [lstB, this, hq, hr]
theorem lstB_nil {rs : List Rul} {qs : List Que} (h : qs.length = 0) : lstB rs qs = false := by
  obtain rfl := List.length_eq_zero_iff.1 h; rfl
theorem mayL_nil {rs : List Rul} {qs : List Que} (h : qs.length = 0) : mayL rs qs = rs.map (fun r => r.id) := by
  obtain rfl := List.length_eq_zero_iff.1 h; rfl
theorem mayL_last {rs : List Rul} {qs : List Que} {j : Nat} {q : Que} {t : Rul} (hl : qs.length = j + 1) (hq : qs[j]? = some q) (hr : fnd rs q.rule = some t) : mayL rs qs = if lackB t q || decide (qs.length = 6) then [] else (rs.filter (fun r => decide (t.rank < r.rank))).map (fun r => r.id) := by
  have : qs.length - 1 = j := by omega
  simp only [mayL, this, hq, hr]
theorem mayL_len (rs : List Rul) (qs : List Que) : (mayL rs qs).length ≤ rs.length := by
  unfold mayL
  split
  · simp
  · split
    · split
      · simp
      · rw [List.length_map]; exact List.length_filter_le _ _
    · simp
theorem rulesB_parts {rs : List Rul} (h : rulesB rs = true) : rs.length ≤ 8 ∧ ∀ k, k < rs.length → ruleStep rs k = true := by
  simp only [rulesB, Bool.and_eq_true, decide_eq_true_eq] at h
  exact ⟨h.2, allTo_iff.1 h.1⟩
theorem rulesB_at {rs : List Rul} (h : rulesB rs = true) {k : Nat} {r : Rul} (hr : rs[k]? = some r) : ruleB r = true := by
  have hk := (List.getElem?_eq_some_iff.1 hr).1
  have h1 := (rulesB_parts h).2 k hk
  cases k with
  | zero => simp only [ruleStep, hr] at h1; exact h1
  | succ j =>
    have hp : rs[j]? = some rs[j] := List.getElem?_eq_getElem (by omega)
    simp only [ruleStep, hp, hr, Bool.and_eq_true] at h1; exact h1.1
theorem ruleB_bd {r : Rul} (h : ruleB r = true) : 1 ≤ r.id ∧ r.id ≤ 20 ∧ 0 ≤ r.rank ∧ r.rank ≤ 9 ∧ 1 ≤ r.need ∧ r.need ≤ 3 ∧ wordB r.name = true := by
  simp only [ruleB, Bool.and_eq_true, inB_iff] at h
  obtain ⟨a, b, c, d⟩ := h
  exact ⟨a.1, a.2, c.1, c.2, d.1, d.2, b⟩
theorem rulesB_lt {rs : List Rul} (h : rulesB rs = true) {j : Nat} {x y : Rul} (hy : rs[j]? = some y) (hx : rs[j + 1]? = some x) : y.id < x.id := by
  have h1 := (rulesB_parts h).2 (j + 1) (List.getElem?_eq_some_iff.1 hx).1
  simp only [ruleStep, hy, hx, Bool.and_eq_true, decide_eq_true_eq] at h1; exact h1.2.1
theorem rulesB_mono {rs : List Rul} (h : rulesB rs = true) : ∀ d j x y, rs[j]? = some y → rs[j + 1 + d]? = some x → y.id < x.id
  | 0, j, x, y, hy, hx => rulesB_lt h hy hx
  | d + 1, j, x, y, hy, hx => by
    have hlt : j + 1 + d < rs.length := by have := (List.getElem?_eq_some_iff.1 hx).1; omega
    have hz : rs[j + 1 + d]? = some rs[j + 1 + d] := List.getElem?_eq_getElem hlt
    have h1 := rulesB_mono h d j _ y hy hz
    have h2 := rulesB_lt h hz (show rs[j + 1 + d + 1]? = some x from hx)
    omega
/-- The rule at an index is the one that its Id finds. -/
theorem rulesB_fnd {rs : List Rul} (h : rulesB rs = true) {k : Nat} {r : Rul} (hr : rs[k]? = some r) : fnd rs r.id = some r := by
  rcases idx_cases (fun x : Rul => x.id == r.id) rs with ⟨h1, h2⟩ | ⟨j, x, h1, h2, h3⟩
  · rw [List.find?_eq_none] at h2
    have := h2 r (List.mem_of_getElem? hr)
    simp at this
  · have hx : x.id = r.id := by have := List.find?_some h3; simpa using this
    have hjk : j = k := by
      rcases Nat.lt_trichotomy j k with hlt | he | hlt
      · obtain ⟨d, rfl⟩ : ∃ d, k = j + 1 + d := ⟨k - j - 1, by omega⟩
        have := rulesB_mono h d j r x h2 hr; omega
      · exact he
      · obtain ⟨d, rfl⟩ : ∃ d, j = k + 1 + d := ⟨j - k - 1, by omega⟩
        have := rulesB_mono h d k x r hr h2; omega
    subst hjk
    rw [h2] at hr; cases hr; exact h3
theorem hasB_mem {xs : List Int} {n : Int} (h : hasB xs n = true) : n ∈ xs := by simpa [hasB] using h
theorem mayL_rule {rs : List Rul} {qs : List Que} {id : Int} (h : pendB rs qs = true) (hid : hasB (mayL rs qs) id = true) : qs.length < 6 ∧ ∃ r, fnd rs id = some r ∧ ∀ j q, qs.length = j + 1 → qs[j]? = some q → ordB rs q ⟨id, 0, false⟩ = true := by
  obtain ⟨h1, h2, h3⟩ := pendB_parts h
  have hm := hasB_mem hid
  cases hn : qs.length with
  | zero =>
    rw [mayL_nil hn] at hm
    obtain ⟨r, hr, rfl⟩ := List.mem_map.1 hm
    obtain ⟨k, hk⟩ := List.mem_iff_getElem?.1 hr
    exact ⟨by omega, r, rulesB_fnd h1 hk, fun j q hj => by omega⟩
  | succ j =>
    have hq : qs[j]? = some qs[j] := List.getElem?_eq_getElem (by omega)
    obtain ⟨t, ht⟩ := pendB_found h hq
    rw [mayL_last hn hq ht] at hm
    split at hm
    · simp at hm
    · rename_i hc
      simp only [Bool.or_eq_true, decide_eq_true_eq, not_or, Bool.not_eq_true] at hc
      obtain ⟨r, hr, rfl⟩ := List.mem_map.1 hm
      rw [List.mem_filter] at hr
      obtain ⟨k, hk⟩ := List.mem_iff_getElem?.1 hr.1
      have hf := rulesB_fnd h1 hk
      refine ⟨by omega, r, hf, fun j' q' hj hq' => ?_⟩
      obtain rfl : j' = j := by omega
      rw [hq] at hq'; cases hq'
      rw [ordB_some ht hf, hc.1, hr.2]; rfl
theorem mvQ_pend {rs : List Rul} {qs ps : List Que} {id mem : Int} (h : mvQ rs qs id mem = some ps) : pendB rs ps = true := by
  unfold mvQ at h
  split at h
  · rename_i hc
    simp only [Bool.and_eq_true] at hc
    cases h
    obtain ⟨hl, r, hr, ho⟩ := mayL_rule hc.1 hc.2.2
    refine pendB_snoc hc.1 hl ?_ (fun j p hj hp => ?_)
    · rw [queB_some (q := ⟨id, mem, false⟩) hr]; simpa using hc.2.1
    · have h2 := ho j p hj hp
      obtain ⟨t, ht⟩ := pendB_found hc.1 hp
      rw [ordB_some (q := ⟨id, 0, false⟩) ht hr] at h2
      rw [ordB_some (q := ⟨id, mem, false⟩) ht hr]; exact h2
  · cases h
theorem last_split {qs : List Que} {j : Nat} {q : Que} (hl : qs.length = j + 1) (hq : qs[j]? = some q) : qs = qs.take j ++ [q] := by
  have h1 := List.take_succ_eq_append_getElem (l := qs) (i := j) (by omega)
  rw [List.take_of_length_le (by omega), (List.getElem?_eq_some_iff.1 hq).2] at h1
  exact h1
theorem sdQ_pend {rs : List Rul} {qs ps : List Que} {mem : Int} (h : sdQ rs qs mem = some ps) : pendB rs ps = true := by
  unfold sdQ at h
  split at h
  · rename_i hc
    simp only [Bool.and_eq_true] at hc
    cases h
    cases hn : qs.length with
    | zero => have := lstB_nil (rs := rs) hn; rw [this] at hc; simp at hc
    | succ j =>
      have hq : qs[j]? = some qs[j] := List.getElem?_eq_getElem (by omega)
      obtain ⟨t, ht⟩ := pendB_found hc.1 hq
      have hlk := hc.2.1
      rw [lstB_last hn hq ht] at hlk
      have hs : t.second = true := by simp only [lackB, Bool.and_eq_true] at hlk; exact hlk.1
      obtain ⟨h1, h2, h3⟩ := pendB_parts hc.1
      have hstep := h3 j (by omega)
      have hqb := queStep_queB hstep hq
      rw [queB_some ht] at hqb
      simp only [Bool.and_eq_true] at hqb
      have hsec : secd qs = qs.take j ++ [⟨qs[j].rule, qs[j].mover, true⟩] := by
        have : qs.length - 1 = j := by omega
        simp only [secd, this, hq]
      rw [hsec]
      refine pendB_snoc (pendB_take hc.1 j) (by rw [List.length_take]; omega) ?_ (fun i p hi hp => ?_)
      · rw [queB_some (q := ⟨qs[j].rule, qs[j].mover, true⟩) ht, hs]; simpa using hqb.1
      · rw [List.length_take] at hi
        rw [List.getElem?_take, if_pos (by omega)] at hp
        obtain rfl : j = i + 1 := by omega
        rw [queStep_succ hp hq] at hstep
        simp only [Bool.and_eq_true] at hstep
        obtain ⟨u, hu⟩ := pendB_found hc.1 hp
        have h5 := hstep.2
        rw [ordB_some hu ht] at h5
        rw [ordB_some (q := ⟨qs[i + 1].rule, qs[i + 1].mover, true⟩) hu ht]; exact h5
  · cases h
theorem dsQ_pend {rs : List Rul} {qs ps : List Que} {q : Que} (h : dsQ rs qs = some (ps, q)) : pendB rs ps = true ∧ pendB rs qs = true ∧ ∃ j, qs.length = j + 1 ∧ qs[j]? = some q ∧ ps = qs.take j := by
  unfold dsQ at h
  split at h
  · rename_i q' hq'
    split at h
    · rename_i hc
      simp only [Bool.and_eq_true] at hc
      cases h
      have := (List.getElem?_eq_some_iff.1 hq').1
      exact ⟨pendB_take hc.1 _, hc.1, qs.length - 1, by omega, hq', rfl⟩
    · cases h
  · cases h
theorem wdQ_pend {rs : List Rul} {qs ps : List Que} {mem : Int} (h : wdQ rs qs mem = some ps) : pendB rs ps = true := by
  unfold wdQ at h
  split at h
  · rename_i hc
    cases hw : wdI qs mem qs.length with
    | none => rw [hw] at h; cases h
    | some k => rw [hw] at h; cases h; exact pendB_take hc k
  · cases h
theorem dpQ_pend {rs : List Rul} {qs ps : List Que} (h : dpQ rs qs = some ps) : pendB rs ps = true := by
  unfold dpQ at h
  split at h
  · rename_i hc
    cases h
    unfold dpL
    split
    · exact pendB_take hc _
    · exact hc
  · cases h
/-- A mover of a pending question is a member. -/
theorem pendB_mover {rs : List Rul} {qs : List Que} (h : pendB rs qs = true) {k : Nat} {q : Que} (hq : qs[k]? = some q) : memB q.mover = true := by
  obtain ⟨r, hr⟩ := pendB_found h hq
  have h1 := queStep_queB ((pendB_parts h).2.2 k (List.getElem?_eq_some_iff.1 hq).1) hq
  rw [queB_some hr] at h1
  simp only [Bool.and_eq_true] at h1; exact h1.1
theorem wdI_mem {qs : List Que} {mem : Int} : ∀ {k j : Nat}, wdI qs mem k = some j → ∃ q, qs[j]? = some q ∧ q.mover = mem
  | 0, j, h => by simp [wdI] at h
  | k + 1, j, h => by
    unfold wdI at h
    split at h
    · rename_i q hq
      split at h
      · rename_i hm; cases h; exact ⟨q, hq, by simpa using hm⟩
      · exact wdI_mem h
    · exact wdI_mem h
end Go.Proofs.YtpkagohflkcnkaaGreatDoor
/- The line of a rule. -/
namespace Go.Proofs.YtpkagohflkcnkaaGreatDoor
open Go.RowKit Go.G9
def ndW (n : Int) : ByteArray := if n = 1 then (⟨#[109, 97, 106, 111, 114, 105, 116, 121]⟩ : ByteArray) else if n = 2 then (⟨#[116, 119, 111, 45, 116, 104, 105, 114, 100, 115]⟩ : ByteArray) else (⟨#[97, 108, 108]⟩ : ByteArray)
def rl0 (r : Rul) : ByteArray := numS r.id ++ (⟨#[32]⟩ : ByteArray) ++ r.name ++ (⟨#[32, 114, 97, 110, 107, 32]⟩ : ByteArray) ++ numS r.rank
def rl1 (r : Rul) : ByteArray := if r.second then rl0 r ++ (⟨#[32, 115, 101, 99, 111, 110, 100]⟩ : ByteArray) else rl0 r
def rl2 (r : Rul) : ByteArray := if r.debate then rl1 r ++ (⟨#[32, 100, 101, 98, 97, 116, 101]⟩ : ByteArray) else rl1 r
def rl3 (r : Rul) : ByteArray := if r.amend then rl2 r ++ (⟨#[32, 97, 109, 101, 110, 100]⟩ : ByteArray) else rl2 r
def rlS (r : Rul) : ByteArray := rl3 r ++ (⟨#[32, 98, 121, 32]⟩ : ByteArray) ++ ndW r.need
def rlT (rs : List Rul) : Nat → ByteArray
  | 0 => ⟨#[]⟩
  | k + 1 => match rs[k]? with | some r => rlT rs k ++ (rlS r ++ (⟨#[10]⟩ : ByteArray)) | none => rlT rs k
theorem rlT_succ {rs : List Rul} {k : Nat} {r : Rul} (h : rs[k]? = some r) : rlT rs (k + 1) = rlT rs k ++ (rlS r ++ (⟨#[10]⟩ : ByteArray)) := by rw [rlT, h]
theorem ndW_size (n : Int) : (ndW n).size ≤ 10 := by unfold ndW; split <;> (try split) <;> decide
/-- The words for the needs, as the program keeps them. -/
def Phn (w : World) : Prop := 0 < w.heap.size ∧ ∀ (i : Nat) (s : ByteArray), [⟨#[]⟩, (⟨#[109, 97, 106, 111, 114, 105, 116, 121]⟩ : ByteArray), (⟨#[116, 119, 111, 45, 116, 104, 105, 114, 100, 115]⟩ : ByteArray), (⟨#[97, 108, 108]⟩ : ByteArray)][i]? = some s → w.cell? ⟨0, i, none⟩ = some (.string s)
theorem Phn.below {w w' : World} (h : Phn w) (hb : Below w.heap.size w w') : Phn w' := by
  obtain ⟨hg, hp⟩ := h
  exact ⟨Nat.lt_of_lt_of_le hg hb.size, fun i s hi => (hb.cell (p := ⟨0, i, none⟩) hg).trans (hp i s hi)⟩
set_option maxHeartbeats 4000000 in
set_option maxRecDepth 100000 in
theorem ruleLine_is (r : Rul) (hv : ruleB r = true) (w : World) (hT : Tab w) (hP : Phn w) :
  Calls Tryz.prog 50 #[.agg #[.int .i64 r.id, .string r.name, .int .i64 r.rank, .bool r.second, .bool r.debate, .bool r.amend, .int .i64 r.need]] w fun e w' => e = .returned (.string (rlS r)) ∧ Below w.heap.size w w' := by
  obtain ⟨i, n, k, s, d, a, x, ok⟩ := r
  obtain ⟨t1, t2, t3, t4, t5, t6, t7⟩ := ruleB_bd hv
  simp only at t1 t2 t3 t4 t5 t6 t7
  have hm : n.size ≤ 10 := by simp [wordB, inB] at t7; omega
  clear hv t7
  have hb0 := bl1 w (.cells #[.int .i64 i, .string n, .int .i64 k, .bool s, .bool d, .bool a, .int .i64 x] 65)
  have HT := Lib.hid (hT.below hb0)
  obtain ⟨hg, hp⟩ := hP.below hb0
  have q1 : ∀ K : Kin (w.alloc (.cells #[.int .i64 i, .string n, .int .i64 k, .bool s, .bool d, .bool a, .int .i64 x] 65)).heap.size (w.alloc (.cells #[.int .i64 i, .string n, .int .i64 k, .bool s, .bool d, .bool a, .int .i64 x] 65)), K.world.cell? ⟨0, x.toNat, none⟩ = some (.string (ndW x)) := fun K => by
    refine (K.cell (p := ⟨0, x.toNat, none⟩) hg).trans (hp x.toNat (ndW x) ?_)
    rcases (show x = 1 ∨ x = 2 ∨ x = 3 by omega) with rfl | rfl | rfl <;> rfl
  clear hg hp hb0 hP
  have p1 := ndW_size x
  have n1 := numS_size i (by omega)
  have n2 := numS_size k (by omega)
  have b0 := boxed w #[.int .i64 i, .string n, .int .i64 k, .bool s, .bool d, .bool a, .int .i64 x] 65 0 _ rfl
  have b1 := boxed w #[.int .i64 i, .string n, .int .i64 k, .bool s, .bool d, .bool a, .int .i64 x] 65 1 _ rfl
  have b2 := boxed w #[.int .i64 i, .string n, .int .i64 k, .bool s, .bool d, .bool a, .int .i64 x] 65 2 _ rfl
  have b3 := boxed w #[.int .i64 i, .string n, .int .i64 k, .bool s, .bool d, .bool a, .int .i64 x] 65 3 _ rfl
  have b4 := boxed w #[.int .i64 i, .string n, .int .i64 k, .bool s, .bool d, .bool a, .int .i64 x] 65 4 _ rfl
  have b5 := boxed w #[.int .i64 i, .string n, .int .i64 k, .bool s, .bool d, .bool a, .int .i64 x] 65 5 _ rfl
  have b6 := boxed w #[.int .i64 i, .string n, .int .i64 k, .bool s, .bool d, .bool a, .int .i64 x] 65 6 _ rfl
  obtain ⟨m, rfl⟩ : ∃ m : Nat, x = m := ⟨x.toNat, by omega⟩
  simp only [Int.toNat_natCast] at q1
  have hm4 : m < 4 := by omega
  cases s <;> cases d <;> cases a
  all_goals
    go_enter Tryz.func50, Tryz.ntmps50
    go_wp2
    refine wp_region_kin (by kernel_rfl) (by kernel_rfl) ?_
    repeat (go_big_quiet_step ((first | (go_at_call 26; exact Kin.call _ (by first | exact Nat.le_refl _ | omega) (itoa_is _ (by omega) (by omega) _ (HT.out.below (Kin.below _)))))))
    refine wpQuiet_nil ?_
    intro K
    have c3 := b3 K
    have c4 := b4 K
    have c5 := b5 K
    have c6 := b6 K
    have cq := q1 K
    go_wp2
    go_ret
    exact ⟨rfl, bth (bl1 _ _) K.below⟩
theorem rlS_size (r : Rul) (hv : ruleB r = true) : (rlS r).size ≤ 120 := by
  obtain ⟨t1, t2, t3, t4, t5, t6, t7⟩ := ruleB_bd hv
  have hm : r.name.size ≤ 10 := by simp [wordB, inB] at t7; omega
  have n1 := numS_size r.id (by omega)
  have n2 := numS_size r.rank (by omega)
  have p1 := ndW_size r.need
  have h0 : (rl0 r).size ≤ 70 := by
    unfold rl0
    simp only [ByteArray.size_append]
    have e1 : ((⟨#[32]⟩ : ByteArray) : ByteArray).size = 1 := rfl
    have e2 : ((⟨#[32, 114, 97, 110, 107, 32]⟩ : ByteArray) : ByteArray).size = 6 := rfl
    omega
  have h1 : (rl1 r).size ≤ 77 := by
    unfold rl1; split
    · rw [ByteArray.size_append]; have e : ((⟨#[32, 115, 101, 99, 111, 110, 100]⟩ : ByteArray) : ByteArray).size = 7 := rfl; omega
    · omega
  have h2 : (rl2 r).size ≤ 84 := by
    unfold rl2; split
    · rw [ByteArray.size_append]; have e : ((⟨#[32, 100, 101, 98, 97, 116, 101]⟩ : ByteArray) : ByteArray).size = 7 := rfl; omega
    · omega
  have h3 : (rl3 r).size ≤ 90 := by
    unfold rl3; split
    · rw [ByteArray.size_append]; have e : ((⟨#[32, 97, 109, 101, 110, 100]⟩ : ByteArray) : ByteArray).size = 6 := rfl; omega
    · omega
  unfold rlS
  rw [ByteArray.size_append, ByteArray.size_append]
  have e : ((⟨#[32, 98, 121, 32]⟩ : ByteArray) : ByteArray).size = 4 := rfl
  omega
theorem rlT_size {rs : List Rul} (h : rulesB rs = true) : ∀ k, (rlT rs k).size ≤ 121 * k
  | 0 => Nat.le_refl _
  | k + 1 => by
    have ih := rlT_size h k
    cases hr : rs[k]? with
    | none => rw [rlT, hr]; dsimp only; omega
    | some r =>
      have := rlS_size r (rulesB_at h hr)
      rw [rlT_succ hr, ByteArray.size_append, ByteArray.size_append]
      have e : ((⟨#[10]⟩ : ByteArray) : ByteArray).size = 1 := rfl
      omega
set_option maxHeartbeats 4000000 in
set_option maxRecDepth 100000 in
theorem rulesText_is (A : Option Addr) (c : Nat) (rs : List Rul) (hr : rulesB rs = true) (w : World) (hR : Rds 7 Rul.cells w A rs) (hT : Tab w) (hP : Phn w) :
  Calls Tryz.prog 24 #[.slice A rs.length c] w fun e w' => e = .returned (.string (rlT rs rs.length)) ∧ Below w.heap.size w w' := by
  have hl := (rulesB_parts hr).1
  have HH := Lib.hid (⟨hT, hP⟩ : Tab w ∧ Phn w)
  have HRB := Lib.hid hr
  clear hT hP hr
  go_enter Tryz.func24, Tryz.ntmps24
  go_wp2
  go_loopw [3, 8] (fun t i wr => ∃ k : Nat, k ≤ rs.length ∧ t = .string (rlT rs k) ∧ i = .int .i64 k ∧ Below w.heap.size w wr) (fun _ i _ => rs.length - (intOf i).toNat)
  case atStart => exact ⟨0, Nat.zero_le _, rfl, rfl, Below.refl _ _⟩
  case round =>
    obtain ⟨k, hk, rfl, rfl, hb⟩ := hrel
    have hts := rlT_size HRB.out k
    by_cases hlt : k < rs.length
    · obtain ⟨b', o', x, rfl, hbl, hx, hcx⟩ := hR.at_ hb hlt
      have hrx := rulesB_at HRB.out hx
      have hxs := rlS_size x hrx
      have HX := Lib.hid hx; have HRX := Lib.hid hrx; clear hx hrx
      have p0 := hcx 0 _ rfl
      have p1 := hcx 1 _ rfl
      have p2 := hcx 2 _ rfl
      have p3 := hcx 3 _ rfl
      have p4 := hcx 4 _ rfl
      have p5 := hcx 5 _ rfl
      have p6 := hcx 6 _ rfl
      simp only [Nat.add_zero] at p0
      have g0 := p0 (Kin.self _)
      have g1 := p1 (Kin.self _)
      have g2 := p2 (Kin.self _)
      have g3 := p3 (Kin.self _)
      have g4 := p4 (Kin.self _)
      have g5 := p5 (Kin.self _)
      have g6 := p6 (Kin.self _)
      simp only [Kin.self] at g0
      simp only [Kin.self] at g1
      simp only [Kin.self] at g2
      simp only [Kin.self] at g3
      simp only [Kin.self] at g4
      simp only [Kin.self] at g5
      simp only [Kin.self] at g6
      clear hcx p0 p1 p2 p3 p4 p5 p6
      go_wp2_with fail
      refine (ruleLine_is x HRX.out _ (HH.out.1.below (bth hb (bl1 _ _))) (HH.out.2.below (bth hb (bl1 _ _)))).mono ?_
      rintro e w2 ⟨rfl, hb2⟩
      have hbz : Below w.heap.size w w2 := bth (bth hb (bl1 _ _)) hb2
      have hs : (rlS x ++ ((⟨#[10]⟩ : ByteArray) : ByteArray)).size ≤ 121 := by rw [ByteArray.size_append]; have e : ((⟨#[10]⟩ : ByteArray) : ByteArray).size = 1 := rfl; omega
      go_wp2
      go_roundw
      case rel => exact ⟨k + 1, by omega, by rw [rlT_succ HX.out], by go_num, hbz⟩
      case measure => (simp [intOf] <;> omega)
    · obtain rfl : k = rs.length := by omega
      go_wp2
      go_ret
      exact ⟨rfl, hb⟩
end Go.Proofs.YtpkagohflkcnkaaGreatDoor
/- The line of a rule: the reference. -/
namespace Go.Proofs.YtpkagohflkcnkaaGreatDoor
open Go.RowKit Go.G9
theorem l2Needs_is (w : World) : Calls Tryz.prog 80 #[] w fun e w' => e = .returned (.slice (some ⟨w.heap.size, 0, none⟩) 4 4) ∧ w' = w.alloc (.cells #[.string ⟨#[]⟩, .string (⟨#[109, 97, 106, 111, 114, 105, 116, 121]⟩ : ByteArray), .string (⟨#[116, 119, 111, 45, 116, 104, 105, 114, 100, 115]⟩ : ByteArray), .string (⟨#[97, 108, 108]⟩ : ByteArray)] 9) := by
  go_enter Tryz.func80, Tryz.ntmps80
  go_wp2
  go_ret
  exact ⟨rfl, rfl⟩
set_option maxHeartbeats 4000000 in
set_option maxRecDepth 100000 in
theorem l2Line_is (r : Rul) (hv : ruleB r = true) (w : World) :
  Calls Tryz.prog 49 #[.agg #[.int .i64 r.id, .string r.name, .int .i64 r.rank, .bool r.second, .bool r.debate, .bool r.amend, .int .i64 r.need]] w fun e w' => e = .returned (.string (rlS r)) ∧ Below w.heap.size w w' := by
  obtain ⟨i, n, k, s, d, a, x, ok⟩ := r
  obtain ⟨t1, t2, t3, t4, t5, t6, t7⟩ := ruleB_bd hv
  simp only at t1 t2 t3 t4 t5 t6 t7
  have hm : n.size ≤ 10 := by simp [wordB, inB] at t7; omega
  clear hv t7
  have p1 := ndW_size x
  have n1 := numS_size i (by omega)
  have n2 := numS_size k (by omega)
  have b0 := boxed w #[.int .i64 i, .string n, .int .i64 k, .bool s, .bool d, .bool a, .int .i64 x] 65 0 _ rfl
  have b1 := boxed w #[.int .i64 i, .string n, .int .i64 k, .bool s, .bool d, .bool a, .int .i64 x] 65 1 _ rfl
  have b2 := boxed w #[.int .i64 i, .string n, .int .i64 k, .bool s, .bool d, .bool a, .int .i64 x] 65 2 _ rfl
  have b3 := boxed w #[.int .i64 i, .string n, .int .i64 k, .bool s, .bool d, .bool a, .int .i64 x] 65 3 _ rfl
  have b4 := boxed w #[.int .i64 i, .string n, .int .i64 k, .bool s, .bool d, .bool a, .int .i64 x] 65 4 _ rfl
  have b5 := boxed w #[.int .i64 i, .string n, .int .i64 k, .bool s, .bool d, .bool a, .int .i64 x] 65 5 _ rfl
  obtain ⟨m, rfl⟩ : ∃ m : Nat, x = m := ⟨x.toNat, by omega⟩
  have hm4 : m < 4 := by omega
  have hnd : [⟨#[]⟩, (⟨#[109, 97, 106, 111, 114, 105, 116, 121]⟩ : ByteArray), (⟨#[116, 119, 111, 45, 116, 104, 105, 114, 100, 115]⟩ : ByteArray), (⟨#[97, 108, 108]⟩ : ByteArray)][m]? = some (ndW (m : Int)) := by
    rcases (show m = 1 ∨ m = 2 ∨ m = 3 by omega) with rfl | rfl | rfl <;> rfl
  have HND := Lib.hid hnd; clear hnd
  have hX0 : ∀ K : Kin (w.alloc (.cells #[.int .i64 i, .string n, .int .i64 k, .bool s, .bool d, .bool a, .int .i64 (m : Int)] 65)).heap.size (w.alloc (.cells #[.int .i64 i, .string n, .int .i64 k, .bool s, .bool d, .bool a, .int .i64 (m : Int)] 65)), Blk K.world w.heap.size 65 #[.int .i64 i, .string n, .int .i64 k, .bool s, .bool d, .bool a, .int .i64 (m : Int)] := fun K => (Blk.new w 65 _).below K.below (by simp)
  obtain ⟨C, hCd⟩ : ∃ C : World → Prop, ∀ V, C V ↔ Blk V w.heap.size 65 #[.int .i64 i, .string n, .int .i64 k, .bool s, .bool d, .bool a, .int .i64 (m : Int)] := ⟨_, fun _ => Iff.rfl⟩
  have HX0 := Lib.hid hX0; have HC := Lib.hid hCd; clear hX0 hCd
  have HK6 := Lib.hid (fun V (h : C V) => (((HC.out V).1 h).cell 6).trans (show _ = some (.int .i64 (m : Int)) from rfl))
  have HCL := Lib.hid (fun V (h : C V) o => (HC.out _).2 (((HC.out V).1 h).alloc o) : ∀ V, C V → ∀ o, C (V.alloc o))
  have HCD := Lib.hid (fun V (h : C V) => (HC.out V.drew).2 (show V.drew.heap[w.heap.size]? = _ from (HC.out V).1 h) : ∀ V, C V → C V.drew)
  cases s <;> cases d <;> cases a
  all_goals
    go_enter Tryz.func49, Tryz.ntmps49
    go_wp2
    refine wp_region_kin (by kernel_rfl) (by kernel_rfl) ?_
    repeat (go_big_quiet_step ((first | (go_at_call 23; exact Kin.call _ (by first | exact Nat.le_refl _ | omega) (l1Num_is _ (by omega) (by omega) _)))))
    refine wpQuiet_nil ?_
    intro K
    have c3 := b3 K
    have c4 := b4 K
    have c5 := b5 K
    go_upto_region 8 with fail
    have hCW := (HC.out _).2 (HX0.out K)
    haveI : Nonempty (Hld C) := ⟨⟨K.world, hCW⟩⟩
    haveI : Nonempty (Hld (fun _ => True)) := ⟨⟨K.world, trivial⟩⟩
    have k6 := fun J : Hld C => HK6.out J.world J.holds
    refine wp_region_mx C [([3, 4], [0, 1], 2, false), ([], [5], 6, false)] [] [7, 8] (by kernel_rfl) (by kernel_rfl) (HCD.out _ hCW) ?_
    have hCW2 := Lib.hid (HCD.out _ hCW)
    have hBK : Below w.heap.size w K.world.drew := (bth (bl1 _ _) K.below).drew
    generalize K.world.drew = wD at *
    clear c3 c4 c5 hCW
    refine wpMx_cons fun J hJ => ?_
    change wpQuiet _ _ _ _ (_ :: _ :: []) _
    repeat (go_big_quiet_step (fail))
    refine wpQuiet_nil ?_
    change wpQuiet _ _ _ _ (_ :: _ :: []) _
    repeat (go_big_quiet_step (fail))
    refine wpQuiet_nil ?_
    change wpList _ _ _ (_ :: []) _ _
    clear k6
    go_wp2_with fail
    refine (l2Needs_is _).mono ?_
    rintro e w2 ⟨rfl, rfl⟩
    go_wp2
    refine Nrm_keep (HCL.out _ hCW2.out _) (hJ _ _ ?_)
    refine wpMx_cons fun J2 hJ2 => ?_
    refine wpQuiet_nil ?_
    change wpQuiet _ _ _ _ (_ :: []) _
    repeat (go_big_quiet_step (fail))
    refine wpQuiet_nil ?_
    change wpList _ _ _ (_ :: []) _ _
    have cm : (wD.alloc (.cells #[.string ⟨#[]⟩, .string (⟨#[109, 97, 106, 111, 114, 105, 116, 121]⟩ : ByteArray), .string (⟨#[116, 119, 111, 45, 116, 104, 105, 114, 100, 115]⟩ : ByteArray), .string (⟨#[97, 108, 108]⟩ : ByteArray)] 9)).cell? ⟨wD.heap.size, m, none⟩ = some (.string (ndW (m : Int))) := by
      refine ((Blk.new wD 9 _).cell m).trans ?_
      have := HND.out
      rcases (show m = 1 ∨ m = 2 ∨ m = 3 by omega) with rfl | rfl | rfl <;> rfl
    have hBA : Below w.heap.size w (wD.alloc (.cells #[.string ⟨#[]⟩, .string (⟨#[109, 97, 106, 111, 114, 105, 116, 121]⟩ : ByteArray), .string (⟨#[116, 119, 111, 45, 116, 104, 105, 114, 100, 115]⟩ : ByteArray), .string (⟨#[97, 108, 108]⟩ : ByteArray)] 9)) := hBK.alloc hBK.size _
    have hCA := Lib.hid (HCL.out _ hCW2.out (.cells #[.string ⟨#[]⟩, .string (⟨#[109, 97, 106, 111, 114, 105, 116, 121]⟩ : ByteArray), .string (⟨#[116, 119, 111, 45, 116, 104, 105, 114, 100, 115]⟩ : ByteArray), .string (⟨#[97, 108, 108]⟩ : ByteArray)] 9))
    generalize wD.alloc (.cells #[.string ⟨#[]⟩, .string (⟨#[109, 97, 106, 111, 114, 105, 116, 121]⟩ : ByteArray), .string (⟨#[116, 119, 111, 45, 116, 104, 105, 114, 100, 115]⟩ : ByteArray), .string (⟨#[97, 108, 108]⟩ : ByteArray)] 9) = wE at *
    go_wp2
    refine Nrm_keep hCA.out (hJ2 _ _ ?_)
    refine wpMx_last ?_
    refine wpQuiet_nil ?_
    change wpQuiet _ _ _ _ (_ :: _ :: []) _
    repeat (go_big_quiet_step (fail))
    refine wpQuiet_nil ?_
    go_wp2
    go_ret
    exact ⟨rfl, hBA⟩
set_option maxHeartbeats 4000000 in
set_option maxRecDepth 100000 in
theorem l2Text_is (A : Option Addr) (c : Nat) (rs : List Rul) (hr : rulesB rs = true) (w : World) (hR : Rds 7 Rul.cells w A rs) :
  Calls Tryz.prog 21 #[.slice A rs.length c] w fun e w' => e = .returned (.string (rlT rs rs.length)) ∧ Below w.heap.size w w' := by
  have hl := (rulesB_parts hr).1
  have HRB := Lib.hid hr
  clear hr
  go_enter Tryz.func21, Tryz.ntmps21
  go_wp2
  go_loopw [3, 4] (fun t i wr => ∃ k : Nat, k ≤ rs.length ∧ t = .string (rlT rs k) ∧ i = .int .i64 k ∧ Below w.heap.size w wr) (fun _ i _ => rs.length - (intOf i).toNat)
  case atStart => exact ⟨0, Nat.zero_le _, rfl, rfl, Below.refl _ _⟩
  case round =>
    obtain ⟨k, hk, rfl, rfl, hb⟩ := hrel
    have hts := rlT_size HRB.out k
    by_cases hlt : k < rs.length
    · obtain ⟨b', o', x, rfl, hbl, hx, hcx⟩ := hR.at_ hb hlt
      have hrx := rulesB_at HRB.out hx
      have hxs := rlS_size x hrx
      have HX := Lib.hid hx; have HRX := Lib.hid hrx; clear hx hrx
      have p0 := hcx 0 _ rfl
      have p1 := hcx 1 _ rfl
      have p2 := hcx 2 _ rfl
      have p3 := hcx 3 _ rfl
      have p4 := hcx 4 _ rfl
      have p5 := hcx 5 _ rfl
      have p6 := hcx 6 _ rfl
      simp only [Nat.add_zero] at p0
      have g0 := p0 (Kin.self _)
      have g1 := p1 (Kin.self _)
      have g2 := p2 (Kin.self _)
      have g3 := p3 (Kin.self _)
      have g4 := p4 (Kin.self _)
      have g5 := p5 (Kin.self _)
      have g6 := p6 (Kin.self _)
      simp only [Kin.self] at g0
      simp only [Kin.self] at g1
      simp only [Kin.self] at g2
      simp only [Kin.self] at g3
      simp only [Kin.self] at g4
      simp only [Kin.self] at g5
      simp only [Kin.self] at g6
      clear hcx p0 p1 p2 p3 p4 p5 p6
      go_wp2_with fail
      refine (l2Line_is x HRX.out _).mono ?_
      rintro e w2 ⟨rfl, hb2⟩
      have hbz : Below w.heap.size w w2 := bth hb hb2
      have hs : (rlT rs k ++ rlS x).size ≤ 121 * k + 120 := by rw [ByteArray.size_append]; omega
      go_wp2
      go_roundw
      case rel => exact ⟨k + 1, by omega, by rw [rlT_succ HX.out, ← ByteArray.append_assoc], by go_num, hbz⟩
      case measure => (simp [intOf] <;> omega)
    · obtain rfl : k = rs.length := by omega
      go_wp2
      go_ret
      exact ⟨rfl, hb⟩
end Go.Proofs.YtpkagohflkcnkaaGreatDoor
/- A console's text. -/
namespace Go.Proofs.YtpkagohflkcnkaaGreatDoor
open Go.RowKit Go.G9
def fmT (x : Con) : Nat → ByteArray
  | 0 => rlT x.rules x.rules.length
  | k + 1 => match x.pend[k]? with
    | some q => (match fnd x.rules q.rule with
      | some r => (if q.sec then fmT x k ++ (r.name ++ (⟨#[32, 98, 121, 32]⟩ : ByteArray) ++ numS q.mover) ++ (⟨#[32, 115, 101, 99, 111, 110, 100, 101, 100]⟩ : ByteArray) else fmT x k ++ (r.name ++ (⟨#[32, 98, 121, 32]⟩ : ByteArray) ++ numS q.mover)) ++ (⟨#[10]⟩ : ByteArray)
      | none => fmT x k)
    | none => fmT x k
theorem fmT_succ {x : Con} {k : Nat} {q : Que} {r : Rul} (hq : x.pend[k]? = some q) (hr : fnd x.rules q.rule = some r) : fmT x (k + 1) = (if q.sec then fmT x k ++ (r.name ++ (⟨#[32, 98, 121, 32]⟩ : ByteArray) ++ numS q.mover) ++ (⟨#[32, 115, 101, 99, 111, 110, 100, 101, 100]⟩ : ByteArray) else fmT x k ++ (r.name ++ (⟨#[32, 98, 121, 32]⟩ : ByteArray) ++ numS q.mover)) ++ (⟨#[10]⟩ : ByteArray) := by
  rw [fmT, hq]; dsimp only; rw [hr]
def fmS (x : Con) : ByteArray := fmT x x.pend.length ++ (⟨#[115, 112, 101, 97, 107, 105, 110, 103, 32]⟩ : ByteArray) ++ numS x.spk ++ (⟨#[59, 32, 111, 117, 116, 99, 111, 109, 101, 115, 32]⟩ : ByteArray) ++ numS (x.outs.length : Int) ++ (⟨#[59, 32, 114, 101, 99, 111, 114, 100, 115, 32]⟩ : ByteArray) ++ numS x.cnt ++ (⟨#[10]⟩ : ByteArray)
def fmOut (x : Con) : Value := if conB x then .tuple #[.string (fmS x), .bool true] else .tuple #[.string ⟨#[]⟩, .bool false]
theorem fmOut_form (x : Con) : ∃ s b, fmOut x = .tuple #[.string s, .bool b] := by unfold fmOut; split <;> exact ⟨_, _, rfl⟩
theorem con_parts {x : Con} (h : conB x = true) : pendB x.rules x.pend = true ∧ (0 ≤ x.spk ∧ x.spk ≤ 99) ∧ x.outs.length ≤ 12 ∧ (0 ≤ x.cnt ∧ x.cnt ≤ 30000) := by
  unfold conB at h
  rw [Bool.and_eq_true] at h
  obtain ⟨hm, hl⟩ := h
  have h1 : floB x.turns x.secs x.spk x.wait x.shares = true ∧ x.outs.length ≤ 12 := by
    have h2 := hm
    unfold meetB meetP at h2
    simp only [Bool.and_eq_true, decide_eq_true_eq] at h2
    exact ⟨h2.2.1, h2.2.2.1⟩
  have h3 : x.spk = 0 ∨ memB x.spk = true := by
    have h2 := h1.1
    unfold floB at h2
    simp only [Bool.and_eq_true, Bool.or_eq_true, beq_iff_eq] at h2
    exact h2.2.2.1
  refine ⟨meetB_pend hm, ?_, h1.2, ?_⟩
  · rcases h3 with h3 | h3
    · omega
    · have := inB_iff.1 h3; omega
  · unfold LogT.ok logS Con.log at hl
    simp at hl
    have l1 := recsL_len (LogT.d ⟨x.dur, x.pen, x.cnt⟩ ++ LogT.p ⟨x.dur, x.pen, x.cnt⟩)
    have l2 := rdAll_len (LogT.d ⟨x.dur, x.pen, x.cnt⟩ ++ LogT.p ⟨x.dur, x.pen, x.cnt⟩)
    omega
theorem name_size {rs : List Rul} (h : rulesB rs = true) {id : Int} {r : Rul} (hr : fnd rs id = some r) : r.name.size ≤ 10 := by
  obtain ⟨k, hk⟩ := List.mem_iff_getElem?.1 (List.mem_of_find?_eq_some hr)
  have := (ruleB_bd (rulesB_at h hk)).2.2.2.2.2.2
  simp [wordB, inB] at this; omega
theorem fmT_size {x : Con} (h : pendB x.rules x.pend = true) : ∀ k, (fmT x k).size ≤ 1000 + 60 * k
  | 0 => by
    have h1 := (pendB_parts h).1
    have h2 := rlT_size h1 x.rules.length
    have h3 := (rulesB_parts h1).1
    unfold fmT; omega
  | k + 1 => by
    have ih := fmT_size h k
    cases hq : x.pend[k]? with
    | none => rw [fmT, hq]; dsimp only; omega
    | some q =>
      obtain ⟨r, hr⟩ := pendB_found h hq
      rw [fmT_succ hq hr]
      have h1 := name_size (pendB_parts h).1 hr
      have h2 := inB_iff.1 (pendB_mover h hq)
      have h3 := numS_size q.mover (by omega)
      have e1 : ((⟨#[32, 98, 121, 32]⟩ : ByteArray) : ByteArray).size = 4 := rfl
      have e2 : ((⟨#[32, 115, 101, 99, 111, 110, 100, 101, 100]⟩ : ByteArray) : ByteArray).size = 9 := rfl
      have e3 : ((⟨#[10]⟩ : ByteArray) : ByteArray).size = 1 := rfl
      split <;> simp only [ByteArray.size_append] <;> omega
set_option maxHeartbeats 8000000 in
set_option maxRecDepth 100000 in
theorem iFormat_is (x : Con) (A0 A1 A2 A3 A4 : Option Addr) (c0 c1 c2 c3 c4 : Nat) (h0 : x.rules.length ≤ 1048576) (h1 : x.pend.length ≤ 1048576) (h2 : x.wait.length ≤ 1048576) (h3 : x.shares.length ≤ 1048576) (h4 : x.outs.length ≤ 1048576) (hz : x.dur.size + x.pen.size ≤ 1048576) (v : Value) (hv : fmOut x = v) (w : World) (R0 : Rds 7 Rul.cells w A0 x.rules) (R1 : Rds 3 Que.cells w A1 x.pend) (R2 : Rds 1 intC w A2 x.wait) (R3 : Rds 3 Sha.cells w A3 x.shares) (R4 : Rds 3 Out.cells w A4 x.outs) (k0 : x.rules.length ≤ c0) (k1 : x.pend.length ≤ c1) (k2 : x.wait.length ≤ c2) (k3 : x.shares.length ≤ c3) (k4 : x.outs.length ≤ c4) (HT : Tab w) (HP : Phn w) :
  Calls Tryz.prog 11 #[.agg #[.slice A0 x.rules.length c0, .slice A1 x.pend.length c1, .int .i64 x.turns, .int .i64 x.secs, .int .i64 x.spk, .slice A2 x.wait.length c2, .slice A3 x.shares.length c3, .slice A4 x.outs.length c4, .string x.dur, .string x.pen, .int .i64 x.cnt]] w fun e w' => e = .returned v ∧ Below w.heap.size w w' := by
  subst hv
  cases hb : conB x
  · have HV := Lib.hid hb
    have e : fmOut x = .tuple #[.string ⟨#[]⟩, .bool false] := by simp [fmOut, hb]
    rw [e]
    clear hb e
    go_enter Tryz.func11, Tryz.ntmps11
    go_upto_region 1 with fail
    have hq1 : Below w.heap.size w (World.alloc w (.cells #[.slice A0 x.rules.length c0, .slice A1 x.pend.length c1, .int .i64 x.turns, .int .i64 x.secs, .int .i64 x.spk, .slice A2 x.wait.length c2, .slice A3 x.shares.length c3, .slice A4 x.outs.length c4, .string x.dur, .string x.pen, .int .i64 x.cnt] 47)) := bl1 w _
    have hX : Blk (World.alloc w (.cells #[.slice A0 x.rules.length c0, .slice A1 x.pend.length c1, .int .i64 x.turns, .int .i64 x.secs, .int .i64 x.spk, .slice A2 x.wait.length c2, .slice A3 x.shares.length c3, .slice A4 x.outs.length c4, .string x.dur, .string x.pen, .int .i64 x.cnt] 47)) (w.heap.size) 47 #[.slice A0 x.rules.length c0, .slice A1 x.pend.length c1, .int .i64 x.turns, .int .i64 x.secs, .int .i64 x.spk, .slice A2 x.wait.length c2, .slice A3 x.shares.length c3, .slice A4 x.outs.length c4, .string x.dur, .string x.pen, .int .i64 x.cnt] := by repeat (first | exact Blk.new _ _ _ | exact Blk.new2 _ _ _ _ | exact Blk.new3 _ _ _ _ _ | exact Blk.new4 _ _ _ _ _ _ | refine Blk.alloc ?_ _)
    replace R0 := R0.below hq1
    replace R1 := R1.below hq1
    replace R2 := R2.below hq1
    replace R3 := R3.below hq1
    replace R4 := R4.below hq1
    replace HT := HT.below hq1
    generalize World.alloc w (.cells #[.slice A0 x.rules.length c0, .slice A1 x.pend.length c1, .int .i64 x.turns, .int .i64 x.secs, .int .i64 x.spk, .slice A2 x.wait.length c2, .slice A3 x.shares.length c3, .slice A4 x.outs.length c4, .string x.dur, .string x.pen, .int .i64 x.cnt] 47) = wX at *
    have HB := hq1
    have z0 := (hX.cell 0).trans (show _ = some (.slice A0 x.rules.length c0) from rfl)
    have z1 := (hX.cell 1).trans (show _ = some (.slice A1 x.pend.length c1) from rfl)
    have z2 := (hX.cell 2).trans (show _ = some (.int .i64 x.turns) from rfl)
    have z3 := (hX.cell 3).trans (show _ = some (.int .i64 x.secs) from rfl)
    have z4 := (hX.cell 4).trans (show _ = some (.int .i64 x.spk) from rfl)
    have z5 := (hX.cell 5).trans (show _ = some (.slice A2 x.wait.length c2) from rfl)
    have z6 := (hX.cell 6).trans (show _ = some (.slice A3 x.shares.length c3) from rfl)
    have z7 := (hX.cell 7).trans (show _ = some (.slice A4 x.outs.length c4) from rfl)
    have z8 := (hX.cell 8).trans (show _ = some (.string x.dur) from rfl)
    have z9 := (hX.cell 9).trans (show _ = some (.string x.pen) from rfl)
    have z10 := (hX.cell 10).trans (show _ = some (.int .i64 x.cnt) from rfl)
    have yhX := hX.lt
    go_wp2_with fail
    refine (iIsValidConsole_is x A0 A1 A2 A3 A4 c0 c1 c2 c3 c4 h0 h1 h2 h3 h4 hz _ HV.out _ (R0.below (by repeat (first | exact Below.refl _ _ | refine Below.alloc ?_ (by first | exact Nat.le_refl _ | (simp <;> omega)) _ | refine Below.setCell ?_ (by first | exact Nat.le_refl _ | (simp <;> omega)) _))) (R1.below (by repeat (first | exact Below.refl _ _ | refine Below.alloc ?_ (by first | exact Nat.le_refl _ | (simp <;> omega)) _ | refine Below.setCell ?_ (by first | exact Nat.le_refl _ | (simp <;> omega)) _))) (R2.below (by repeat (first | exact Below.refl _ _ | refine Below.alloc ?_ (by first | exact Nat.le_refl _ | (simp <;> omega)) _ | refine Below.setCell ?_ (by first | exact Nat.le_refl _ | (simp <;> omega)) _))) (R3.below (by repeat (first | exact Below.refl _ _ | refine Below.alloc ?_ (by first | exact Nat.le_refl _ | (simp <;> omega)) _ | refine Below.setCell ?_ (by first | exact Nat.le_refl _ | (simp <;> omega)) _))) (R4.below (by repeat (first | exact Below.refl _ _ | refine Below.alloc ?_ (by first | exact Nat.le_refl _ | (simp <;> omega)) _ | refine Below.setCell ?_ (by first | exact Nat.le_refl _ | (simp <;> omega)) _))) k0 k1 k2 k3 k4 (HT.below (by repeat (first | exact Below.refl _ _ | refine Below.alloc ?_ (by first | exact Nat.le_refl _ | (simp <;> omega)) _ | refine Below.setCell ?_ (by first | exact Nat.le_refl _ | (simp <;> omega)) _)))).mono ?_
    rintro e w2 ⟨rfl, hb2⟩
    have hq2 : Below wX.heap.size wX w2 := bth (by repeat (first | exact Below.refl _ _ | refine Below.alloc ?_ (by first | exact Nat.le_refl _ | (simp <;> omega)) _ | refine Below.setCell ?_ (by first | exact Nat.le_refl _ | (simp <;> omega)) _)) hb2
    replace HB := bth HB hq2
    replace R0 := R0.below hq2
    replace R1 := R1.below hq2
    replace R2 := R2.below hq2
    replace R3 := R3.below hq2
    replace R4 := R4.below hq2
    replace HT := HT.below hq2
    replace hX := hX.below hq2 hX.lt
    replace z0 := (hX.cell 0).trans (show _ = some (.slice A0 x.rules.length c0) from rfl)
    replace z1 := (hX.cell 1).trans (show _ = some (.slice A1 x.pend.length c1) from rfl)
    replace z2 := (hX.cell 2).trans (show _ = some (.int .i64 x.turns) from rfl)
    replace z3 := (hX.cell 3).trans (show _ = some (.int .i64 x.secs) from rfl)
    replace z4 := (hX.cell 4).trans (show _ = some (.int .i64 x.spk) from rfl)
    replace z5 := (hX.cell 5).trans (show _ = some (.slice A2 x.wait.length c2) from rfl)
    replace z6 := (hX.cell 6).trans (show _ = some (.slice A3 x.shares.length c3) from rfl)
    replace z7 := (hX.cell 7).trans (show _ = some (.slice A4 x.outs.length c4) from rfl)
    replace z8 := (hX.cell 8).trans (show _ = some (.string x.dur) from rfl)
    replace z9 := (hX.cell 9).trans (show _ = some (.string x.pen) from rfl)
    replace z10 := (hX.cell 10).trans (show _ = some (.int .i64 x.cnt) from rfl)
    go_wp2
    go_ret2
    exact ⟨rfl, (bth HB (by repeat (first | exact Below.refl _ _ | refine Below.alloc ?_ (by first | exact Nat.le_refl _ | (simp <;> omega)) _ | refine Below.setCell ?_ (by first | exact Nat.le_refl _ | (simp <;> omega)) _)))⟩
  · have HV := Lib.hid hb
    have e : fmOut x = .tuple #[.string (fmS x), .bool true] := by simp [fmOut, hb]
    rw [e]
    obtain ⟨hp, hsp, ho, hc⟩ := con_parts hb
    have HPB := Lib.hid hp
    have HRB := Lib.hid (pendB_parts hp).1
    clear hb e hp
    go_enter Tryz.func11, Tryz.ntmps11
    go_upto_region 1 with fail
    have hq1 : Below w.heap.size w (World.alloc w (.cells #[.slice A0 x.rules.length c0, .slice A1 x.pend.length c1, .int .i64 x.turns, .int .i64 x.secs, .int .i64 x.spk, .slice A2 x.wait.length c2, .slice A3 x.shares.length c3, .slice A4 x.outs.length c4, .string x.dur, .string x.pen, .int .i64 x.cnt] 47)) := bl1 w _
    have hX : Blk (World.alloc w (.cells #[.slice A0 x.rules.length c0, .slice A1 x.pend.length c1, .int .i64 x.turns, .int .i64 x.secs, .int .i64 x.spk, .slice A2 x.wait.length c2, .slice A3 x.shares.length c3, .slice A4 x.outs.length c4, .string x.dur, .string x.pen, .int .i64 x.cnt] 47)) (w.heap.size) 47 #[.slice A0 x.rules.length c0, .slice A1 x.pend.length c1, .int .i64 x.turns, .int .i64 x.secs, .int .i64 x.spk, .slice A2 x.wait.length c2, .slice A3 x.shares.length c3, .slice A4 x.outs.length c4, .string x.dur, .string x.pen, .int .i64 x.cnt] := by repeat (first | exact Blk.new _ _ _ | exact Blk.new2 _ _ _ _ | exact Blk.new3 _ _ _ _ _ | exact Blk.new4 _ _ _ _ _ _ | refine Blk.alloc ?_ _)
    replace R0 := R0.below hq1
    replace R1 := R1.below hq1
    replace R2 := R2.below hq1
    replace R3 := R3.below hq1
    replace R4 := R4.below hq1
    replace HT := HT.below hq1
    replace HP := HP.below hq1
    generalize World.alloc w (.cells #[.slice A0 x.rules.length c0, .slice A1 x.pend.length c1, .int .i64 x.turns, .int .i64 x.secs, .int .i64 x.spk, .slice A2 x.wait.length c2, .slice A3 x.shares.length c3, .slice A4 x.outs.length c4, .string x.dur, .string x.pen, .int .i64 x.cnt] 47) = wX at *
    have HB := hq1
    have z0 := (hX.cell 0).trans (show _ = some (.slice A0 x.rules.length c0) from rfl)
    have z1 := (hX.cell 1).trans (show _ = some (.slice A1 x.pend.length c1) from rfl)
    have z2 := (hX.cell 2).trans (show _ = some (.int .i64 x.turns) from rfl)
    have z3 := (hX.cell 3).trans (show _ = some (.int .i64 x.secs) from rfl)
    have z4 := (hX.cell 4).trans (show _ = some (.int .i64 x.spk) from rfl)
    have z5 := (hX.cell 5).trans (show _ = some (.slice A2 x.wait.length c2) from rfl)
    have z6 := (hX.cell 6).trans (show _ = some (.slice A3 x.shares.length c3) from rfl)
    have z7 := (hX.cell 7).trans (show _ = some (.slice A4 x.outs.length c4) from rfl)
    have z8 := (hX.cell 8).trans (show _ = some (.string x.dur) from rfl)
    have z9 := (hX.cell 9).trans (show _ = some (.string x.pen) from rfl)
    have z10 := (hX.cell 10).trans (show _ = some (.int .i64 x.cnt) from rfl)
    have yhX := hX.lt
    go_wp2_with fail
    refine (iIsValidConsole_is x A0 A1 A2 A3 A4 c0 c1 c2 c3 c4 h0 h1 h2 h3 h4 hz _ HV.out _ (R0.below (by repeat (first | exact Below.refl _ _ | refine Below.alloc ?_ (by first | exact Nat.le_refl _ | (simp <;> omega)) _ | refine Below.setCell ?_ (by first | exact Nat.le_refl _ | (simp <;> omega)) _))) (R1.below (by repeat (first | exact Below.refl _ _ | refine Below.alloc ?_ (by first | exact Nat.le_refl _ | (simp <;> omega)) _ | refine Below.setCell ?_ (by first | exact Nat.le_refl _ | (simp <;> omega)) _))) (R2.below (by repeat (first | exact Below.refl _ _ | refine Below.alloc ?_ (by first | exact Nat.le_refl _ | (simp <;> omega)) _ | refine Below.setCell ?_ (by first | exact Nat.le_refl _ | (simp <;> omega)) _))) (R3.below (by repeat (first | exact Below.refl _ _ | refine Below.alloc ?_ (by first | exact Nat.le_refl _ | (simp <;> omega)) _ | refine Below.setCell ?_ (by first | exact Nat.le_refl _ | (simp <;> omega)) _))) (R4.below (by repeat (first | exact Below.refl _ _ | refine Below.alloc ?_ (by first | exact Nat.le_refl _ | (simp <;> omega)) _ | refine Below.setCell ?_ (by first | exact Nat.le_refl _ | (simp <;> omega)) _))) k0 k1 k2 k3 k4 (HT.below (by repeat (first | exact Below.refl _ _ | refine Below.alloc ?_ (by first | exact Nat.le_refl _ | (simp <;> omega)) _ | refine Below.setCell ?_ (by first | exact Nat.le_refl _ | (simp <;> omega)) _)))).mono ?_
    rintro e w2 ⟨rfl, hb2⟩
    have hq2 : Below wX.heap.size wX w2 := bth (by repeat (first | exact Below.refl _ _ | refine Below.alloc ?_ (by first | exact Nat.le_refl _ | (simp <;> omega)) _ | refine Below.setCell ?_ (by first | exact Nat.le_refl _ | (simp <;> omega)) _)) hb2
    replace HB := bth HB hq2
    replace R0 := R0.below hq2
    replace R1 := R1.below hq2
    replace R2 := R2.below hq2
    replace R3 := R3.below hq2
    replace R4 := R4.below hq2
    replace HT := HT.below hq2
    replace HP := HP.below hq2
    replace hX := hX.below hq2 hX.lt
    replace z0 := (hX.cell 0).trans (show _ = some (.slice A0 x.rules.length c0) from rfl)
    replace z1 := (hX.cell 1).trans (show _ = some (.slice A1 x.pend.length c1) from rfl)
    replace z2 := (hX.cell 2).trans (show _ = some (.int .i64 x.turns) from rfl)
    replace z3 := (hX.cell 3).trans (show _ = some (.int .i64 x.secs) from rfl)
    replace z4 := (hX.cell 4).trans (show _ = some (.int .i64 x.spk) from rfl)
    replace z5 := (hX.cell 5).trans (show _ = some (.slice A2 x.wait.length c2) from rfl)
    replace z6 := (hX.cell 6).trans (show _ = some (.slice A3 x.shares.length c3) from rfl)
    replace z7 := (hX.cell 7).trans (show _ = some (.slice A4 x.outs.length c4) from rfl)
    replace z8 := (hX.cell 8).trans (show _ = some (.string x.dur) from rfl)
    replace z9 := (hX.cell 9).trans (show _ = some (.string x.pen) from rfl)
    replace z10 := (hX.cell 10).trans (show _ = some (.int .i64 x.cnt) from rfl)
    have yhX := hX.lt
    go_upto_region 4 with fail
    have hq3 : Below w2.heap.size w2 (World.alloc w2 (.cells #[.slice A0 x.rules.length c0, .slice A1 x.pend.length c1, .int .i64 x.turns, .int .i64 x.secs, .int .i64 x.spk, .slice A2 x.wait.length c2, .slice A3 x.shares.length c3, .slice A4 x.outs.length c4] 44)) := bl1 w2 _
    have hM : Blk (World.alloc w2 (.cells #[.slice A0 x.rules.length c0, .slice A1 x.pend.length c1, .int .i64 x.turns, .int .i64 x.secs, .int .i64 x.spk, .slice A2 x.wait.length c2, .slice A3 x.shares.length c3, .slice A4 x.outs.length c4] 44)) (w2.heap.size) 44 #[.slice A0 x.rules.length c0, .slice A1 x.pend.length c1, .int .i64 x.turns, .int .i64 x.secs, .int .i64 x.spk, .slice A2 x.wait.length c2, .slice A3 x.shares.length c3, .slice A4 x.outs.length c4] := by repeat (first | exact Blk.new _ _ _ | exact Blk.new2 _ _ _ _ | exact Blk.new3 _ _ _ _ _ | exact Blk.new4 _ _ _ _ _ _ | refine Blk.alloc ?_ _)
    replace R0 := R0.below hq3
    replace R1 := R1.below hq3
    replace R2 := R2.below hq3
    replace R3 := R3.below hq3
    replace R4 := R4.below hq3
    replace HT := HT.below hq3
    replace HP := HP.below hq3
    generalize World.alloc w2 (.cells #[.slice A0 x.rules.length c0, .slice A1 x.pend.length c1, .int .i64 x.turns, .int .i64 x.secs, .int .i64 x.spk, .slice A2 x.wait.length c2, .slice A3 x.shares.length c3, .slice A4 x.outs.length c4] 44) = wM at *
    replace HB := bth HB hq3
    have b0 := (hM.cell 0).trans (show _ = some (.slice A0 x.rules.length c0) from rfl)
    have b1 := (hM.cell 1).trans (show _ = some (.slice A1 x.pend.length c1) from rfl)
    have b2 := (hM.cell 2).trans (show _ = some (.int .i64 x.turns) from rfl)
    have b3 := (hM.cell 3).trans (show _ = some (.int .i64 x.secs) from rfl)
    have b4 := (hM.cell 4).trans (show _ = some (.int .i64 x.spk) from rfl)
    have b5 := (hM.cell 5).trans (show _ = some (.slice A2 x.wait.length c2) from rfl)
    have b6 := (hM.cell 6).trans (show _ = some (.slice A3 x.shares.length c3) from rfl)
    have b7 := (hM.cell 7).trans (show _ = some (.slice A4 x.outs.length c4) from rfl)
    replace hX := hX.below hq3 hX.lt
    clear z0 z1 z2 z3 z4 z5 z6 z7 z8 z9 z10
    have z0 := (hX.cell 0).trans (show _ = some (.slice A0 x.rules.length c0) from rfl)
    have z1 := (hX.cell 1).trans (show _ = some (.slice A1 x.pend.length c1) from rfl)
    have z2 := (hX.cell 2).trans (show _ = some (.int .i64 x.turns) from rfl)
    have z3 := (hX.cell 3).trans (show _ = some (.int .i64 x.secs) from rfl)
    have z4 := (hX.cell 4).trans (show _ = some (.int .i64 x.spk) from rfl)
    have z5 := (hX.cell 5).trans (show _ = some (.slice A2 x.wait.length c2) from rfl)
    have z6 := (hX.cell 6).trans (show _ = some (.slice A3 x.shares.length c3) from rfl)
    have z7 := (hX.cell 7).trans (show _ = some (.slice A4 x.outs.length c4) from rfl)
    have z8 := (hX.cell 8).trans (show _ = some (.string x.dur) from rfl)
    have z9 := (hX.cell 9).trans (show _ = some (.string x.pen) from rfl)
    have z10 := (hX.cell 10).trans (show _ = some (.int .i64 x.cnt) from rfl)
    have yhM := hM.lt
    have yhX := hX.lt
    go_wp2_with fail
    refine (rulesText_is A0 c0 x.rules HRB.out _ (R0.below (by repeat (first | exact Below.refl _ _ | refine Below.alloc ?_ (by first | exact Nat.le_refl _ | (simp <;> omega)) _ | refine Below.setCell ?_ (by first | exact Nat.le_refl _ | (simp <;> omega)) _))) (HT.below (by repeat (first | exact Below.refl _ _ | refine Below.alloc ?_ (by first | exact Nat.le_refl _ | (simp <;> omega)) _ | refine Below.setCell ?_ (by first | exact Nat.le_refl _ | (simp <;> omega)) _))) (HP.below (by repeat (first | exact Below.refl _ _ | refine Below.alloc ?_ (by first | exact Nat.le_refl _ | (simp <;> omega)) _ | refine Below.setCell ?_ (by first | exact Nat.le_refl _ | (simp <;> omega)) _)))).mono ?_
    rintro e w4 ⟨rfl, hb4⟩
    have hq4 : Below wM.heap.size wM w4 := bth (by repeat (first | exact Below.refl _ _ | refine Below.alloc ?_ (by first | exact Nat.le_refl _ | (simp <;> omega)) _ | refine Below.setCell ?_ (by first | exact Nat.le_refl _ | (simp <;> omega)) _)) hb4
    replace HB := bth HB hq4
    replace R0 := R0.below hq4
    replace R1 := R1.below hq4
    replace R2 := R2.below hq4
    replace R3 := R3.below hq4
    replace R4 := R4.below hq4
    replace HT := HT.below hq4
    replace HP := HP.below hq4
    replace hM := hM.below hq4 hM.lt
    replace b0 := (hM.cell 0).trans (show _ = some (.slice A0 x.rules.length c0) from rfl)
    replace b1 := (hM.cell 1).trans (show _ = some (.slice A1 x.pend.length c1) from rfl)
    replace b2 := (hM.cell 2).trans (show _ = some (.int .i64 x.turns) from rfl)
    replace b3 := (hM.cell 3).trans (show _ = some (.int .i64 x.secs) from rfl)
    replace b4 := (hM.cell 4).trans (show _ = some (.int .i64 x.spk) from rfl)
    replace b5 := (hM.cell 5).trans (show _ = some (.slice A2 x.wait.length c2) from rfl)
    replace b6 := (hM.cell 6).trans (show _ = some (.slice A3 x.shares.length c3) from rfl)
    replace b7 := (hM.cell 7).trans (show _ = some (.slice A4 x.outs.length c4) from rfl)
    replace hX := hX.below hq4 hX.lt
    replace z0 := (hX.cell 0).trans (show _ = some (.slice A0 x.rules.length c0) from rfl)
    replace z1 := (hX.cell 1).trans (show _ = some (.slice A1 x.pend.length c1) from rfl)
    replace z2 := (hX.cell 2).trans (show _ = some (.int .i64 x.turns) from rfl)
    replace z3 := (hX.cell 3).trans (show _ = some (.int .i64 x.secs) from rfl)
    replace z4 := (hX.cell 4).trans (show _ = some (.int .i64 x.spk) from rfl)
    replace z5 := (hX.cell 5).trans (show _ = some (.slice A2 x.wait.length c2) from rfl)
    replace z6 := (hX.cell 6).trans (show _ = some (.slice A3 x.shares.length c3) from rfl)
    replace z7 := (hX.cell 7).trans (show _ = some (.slice A4 x.outs.length c4) from rfl)
    replace z8 := (hX.cell 8).trans (show _ = some (.string x.dur) from rfl)
    replace z9 := (hX.cell 9).trans (show _ = some (.string x.pen) from rfl)
    replace z10 := (hX.cell 10).trans (show _ = some (.int .i64 x.cnt) from rfl)
    have HR0 := Lib.hid R0; have HR1 := Lib.hid R1; have HTT := Lib.hid HT
    clear R0 R1 R2 R3 R4 HT HP
    have yhM := hM.lt
    have yhX := hX.lt
    go_wp2
    clear z0 z1 z2 z3 z4 z5 z6 z7 z8 z9 z10 b0 b1 b2 b3 b4 b5 b6 b7
    go_loopw [5, 19] (fun t i wr => ∃ k : Nat, k ≤ x.pend.length ∧ t = .string (fmT x k) ∧ i = .int .i64 k ∧ Below w4.heap.size w4 wr) (fun _ i _ => x.pend.length - (intOf i).toNat)
    case atStart => exact ⟨0, Nat.zero_le _, rfl, rfl, Below.refl _ _⟩
    case round =>
      obtain ⟨k, hk, rfl, rfl, hb⟩ := hrel
      have hts := fmT_size HPB.out k
      have hk6 := (pendB_parts HPB.out).2.1
      by_cases hlt : k < x.pend.length
      · obtain ⟨bq, oq, ⟨qr, qm, qe⟩, rfl, hbl, hq, hcq⟩ := HR1.out.at_ hb hlt
        obtain ⟨r, hr⟩ := pendB_found HPB.out hq
        have hnm := name_size HRB.out hr
        have hmv := inB_iff.1 (pendB_mover HPB.out hq)
        simp only at hmv
        have hns := numS_size qm (by omega)
        have HQ := Lib.hid hq; have HRR := Lib.hid hr
        have p0 := hcq 0 _ rfl
        have p1 := hcq 1 _ rfl
        have p2 := hcq 2 _ rfl
        simp only [Nat.add_zero] at p0
        have g0 := p0 (Kin.self _)
        have g1 := p1 (Kin.self _)
        have g2 := p2 (Kin.self _)
        simp only [Kin.self] at g0
        simp only [Kin.self] at g1
        simp only [Kin.self] at g2
        clear hcq p0 p1 p2 hq hr
        go_upto_region 8 with fail
        have hQ := Blk.new wr 63 #[.int .i64 qr, .int .i64 qm, .bool qe]
        have hbv := hb.alloc hb.size (.cells #[.int .i64 qr, .int .i64 qm, .bool qe] 63)
        generalize wr.alloc (.cells #[.int .i64 qr, .int .i64 qm, .bool qe] 63) = wv at *
        clear g0 g1 g2
        have hMv := hM.below hbv hM.lt
        have f0 := fun K : Kin wv.heap.size wv => ((hMv.below K.below hMv.lt).cell 0).trans (show _ = some (.slice A0 x.rules.length c0) from rfl)
        have q0 := fun K : Kin wv.heap.size wv => ((hQ.below K.below hQ.lt).cell 0).trans (show _ = some (.int .i64 qr) from rfl)
        have q1 := fun K : Kin wv.heap.size wv => ((hQ.below K.below hQ.lt).cell 1).trans (show _ = some (.int .i64 qm) from rfl)
        have q2 := fun K : Kin wv.heap.size wv => ((hQ.below K.below hQ.lt).cell 2).trans (show _ = some (.bool qe) from rfl)
        have HRV := Lib.hid (fun K : Kin wv.heap.size wv => (HR0.out.below hbv).below K.below)
        have HTV := Lib.hid (fun K : Kin wv.heap.size wv => (HTT.out.below hbv).below K.below)
        obtain ⟨ri, rn, rk, rs, rd, ra, rx, rok⟩ := r
        simp only at hnm
        have hf := fun W => (show (Instr.field 65 (.agg #[.int .i64 ri, .string rn, .int .i64 rk, .bool rs, .bool rd, .bool ra, .int .i64 rx]) 1).run Tryz.prog W = .ok (.string rn) W by kernel_rfl)
        refine wp_region_kin (by kernel_rfl) (by kernel_rfl) ?_
        repeat (go_big_quiet_step ((first | (go_at_call 25; exact Kin.call _ (by first | exact Nat.le_refl _ | omega) (ruleOf_is A0 c0 x.rules h0 ⟨qr, qm, qe⟩ ⟨ri, rn, rk, rs, rd, ra, rx, rok⟩ HRR.out _ (HRV.out _))) | (go_at_call 26; exact Kin.call _ (by first | exact Nat.le_refl _ | omega) (itoa_is _ (by omega) (by omega) _ (HTV.out _))))))
        refine wpQuiet_nil ?_
        intro K
        have c2 := q2 K
        clear hf f0 q0 q1 q2
        have e1 : ((⟨#[32, 98, 121, 32]⟩ : ByteArray) : ByteArray).size = 4 := rfl
        have hs1 : (rn ++ ((⟨#[32, 98, 121, 32]⟩ : ByteArray) : ByteArray) ++ numS qm).size ≤ 30 := by simp only [ByteArray.size_append]; omega
        have HSS := Lib.hid (fmT_succ HQ.out HRR.out)
        cases qe
        all_goals
          go_wp2
          go_roundw
          case rel => exact ⟨k + 1, by omega, by rw [HSS.out]; rfl, by go_num, bth hbv K.below⟩
          case measure => (simp [intOf] <;> omega)
      · obtain rfl : k = x.pend.length := by omega
        have hMv := hM.below hb hM.lt
        have hXv := hX.below hb hX.lt
        have f4 := fun K : Kin wr.heap.size wr => ((hMv.below K.below hMv.lt).cell 4).trans (show _ = some (.int .i64 x.spk) from rfl)
        have f7 := fun K : Kin wr.heap.size wr => ((hMv.below K.below hMv.lt).cell 7).trans (show _ = some (.slice A4 x.outs.length c4) from rfl)
        have f10 := fun K : Kin wr.heap.size wr => ((hXv.below K.below hXv.lt).cell 10).trans (show _ = some (.int .i64 x.cnt) from rfl)
        have HTV := Lib.hid (fun K : Kin wr.heap.size wr => (HTT.out.below hb).below K.below)
        have n1 := numS_size x.spk (by omega)
        have n2 := numS_size (x.outs.length : Int) (by omega)
        have n3 := numS_size x.cnt (by omega)
        go_wp2
        refine wp_region_kin (by kernel_rfl) (by kernel_rfl) ?_
        repeat (go_big_quiet_step ((first | (go_at_call 26; exact Kin.call _ (by first | exact Nat.le_refl _ | omega) (itoa_is _ (by omega) (by omega) _ (HTV.out _))))))
        refine wpQuiet_nil ?_
        intro K
        go_wp2
        go_ret2
        exact ⟨rfl, bth HB (bth hb K.below)⟩
theorem l2FindB_is (A : Option Addr) (c : Nat) (xs : List Rul) (hn : xs.length ≤ 1048576) (id : Int) (v : Int) (hv : idxB (fun r => r.id == id) xs = v) (w : World) (hR : Rds 7 Rul.cells w A xs) :
  Calls Tryz.prog 22 #[.slice A xs.length c, .int .i64 id] w fun e w' => e = .returned (.int .i64 v) ∧ Below w.heap.size w w' := (l2Find_is A c xs hn id v hv w hR).mono (fun _ _ ⟨h1, h2⟩ => ⟨h1, h2 ▸ Below.refl _ _⟩)
set_option maxHeartbeats 8000000 in
set_option maxRecDepth 100000 in
theorem sFormat_is (x : Con) (A0 A1 A2 A3 A4 : Option Addr) (c0 c1 c2 c3 c4 : Nat) (h0 : x.rules.length ≤ 1048576) (h1 : x.pend.length ≤ 1048576) (h2 : x.wait.length ≤ 1048576) (h3 : x.shares.length ≤ 1048576) (h4 : x.outs.length ≤ 1048576) (hz : x.dur.size + x.pen.size ≤ 1048576) (v : Value) (hv : fmOut x = v) (w : World) (R0 : Rds 7 Rul.cells w A0 x.rules) (R1 : Rds 3 Que.cells w A1 x.pend) (R2 : Rds 1 intC w A2 x.wait) (R3 : Rds 3 Sha.cells w A3 x.shares) (R4 : Rds 3 Out.cells w A4 x.outs) (k0 : x.rules.length ≤ c0) (k1 : x.pend.length ≤ c1) (k2 : x.wait.length ≤ c2) (k3 : x.shares.length ≤ c3) (k4 : x.outs.length ≤ c4) :
  Calls Tryz.prog 10 #[.agg #[.slice A0 x.rules.length c0, .slice A1 x.pend.length c1, .int .i64 x.turns, .int .i64 x.secs, .int .i64 x.spk, .slice A2 x.wait.length c2, .slice A3 x.shares.length c3, .slice A4 x.outs.length c4, .string x.dur, .string x.pen, .int .i64 x.cnt]] w fun e w' => e = .returned v ∧ Below w.heap.size w w' := by
  subst hv
  cases hb : conB x
  · have HV := Lib.hid hb
    have e : fmOut x = .tuple #[.string ⟨#[]⟩, .bool false] := by simp [fmOut, hb]
    rw [e]
    clear hb e
    go_enter Tryz.func10, Tryz.ntmps10
    go_upto_region 1 with fail
    have hq1 : Below w.heap.size w (World.alloc w (.cells #[.slice A0 x.rules.length c0, .slice A1 x.pend.length c1, .int .i64 x.turns, .int .i64 x.secs, .int .i64 x.spk, .slice A2 x.wait.length c2, .slice A3 x.shares.length c3, .slice A4 x.outs.length c4, .string x.dur, .string x.pen, .int .i64 x.cnt] 47)) := bl1 w _
    have hX : Blk (World.alloc w (.cells #[.slice A0 x.rules.length c0, .slice A1 x.pend.length c1, .int .i64 x.turns, .int .i64 x.secs, .int .i64 x.spk, .slice A2 x.wait.length c2, .slice A3 x.shares.length c3, .slice A4 x.outs.length c4, .string x.dur, .string x.pen, .int .i64 x.cnt] 47)) (w.heap.size) 47 #[.slice A0 x.rules.length c0, .slice A1 x.pend.length c1, .int .i64 x.turns, .int .i64 x.secs, .int .i64 x.spk, .slice A2 x.wait.length c2, .slice A3 x.shares.length c3, .slice A4 x.outs.length c4, .string x.dur, .string x.pen, .int .i64 x.cnt] := by repeat (first | exact Blk.new _ _ _ | exact Blk.new2 _ _ _ _ | exact Blk.new3 _ _ _ _ _ | exact Blk.new4 _ _ _ _ _ _ | refine Blk.alloc ?_ _)
    replace R0 := R0.below hq1
    replace R1 := R1.below hq1
    replace R2 := R2.below hq1
    replace R3 := R3.below hq1
    replace R4 := R4.below hq1
    generalize World.alloc w (.cells #[.slice A0 x.rules.length c0, .slice A1 x.pend.length c1, .int .i64 x.turns, .int .i64 x.secs, .int .i64 x.spk, .slice A2 x.wait.length c2, .slice A3 x.shares.length c3, .slice A4 x.outs.length c4, .string x.dur, .string x.pen, .int .i64 x.cnt] 47) = wX at *
    have HB := hq1
    have z0 := (hX.cell 0).trans (show _ = some (.slice A0 x.rules.length c0) from rfl)
    have z1 := (hX.cell 1).trans (show _ = some (.slice A1 x.pend.length c1) from rfl)
    have z2 := (hX.cell 2).trans (show _ = some (.int .i64 x.turns) from rfl)
    have z3 := (hX.cell 3).trans (show _ = some (.int .i64 x.secs) from rfl)
    have z4 := (hX.cell 4).trans (show _ = some (.int .i64 x.spk) from rfl)
    have z5 := (hX.cell 5).trans (show _ = some (.slice A2 x.wait.length c2) from rfl)
    have z6 := (hX.cell 6).trans (show _ = some (.slice A3 x.shares.length c3) from rfl)
    have z7 := (hX.cell 7).trans (show _ = some (.slice A4 x.outs.length c4) from rfl)
    have z8 := (hX.cell 8).trans (show _ = some (.string x.dur) from rfl)
    have z9 := (hX.cell 9).trans (show _ = some (.string x.pen) from rfl)
    have z10 := (hX.cell 10).trans (show _ = some (.int .i64 x.cnt) from rfl)
    have yhX := hX.lt
    go_wp2_with fail
    refine (l28Good_is x A0 A1 A2 A3 A4 c0 c1 c2 c3 c4 h0 h1 h2 h3 h4 hz _ HV.out _ (R0.below (by repeat (first | exact Below.refl _ _ | refine Below.alloc ?_ (by first | exact Nat.le_refl _ | (simp <;> omega)) _ | refine Below.setCell ?_ (by first | exact Nat.le_refl _ | (simp <;> omega)) _))) (R1.below (by repeat (first | exact Below.refl _ _ | refine Below.alloc ?_ (by first | exact Nat.le_refl _ | (simp <;> omega)) _ | refine Below.setCell ?_ (by first | exact Nat.le_refl _ | (simp <;> omega)) _))) (R2.below (by repeat (first | exact Below.refl _ _ | refine Below.alloc ?_ (by first | exact Nat.le_refl _ | (simp <;> omega)) _ | refine Below.setCell ?_ (by first | exact Nat.le_refl _ | (simp <;> omega)) _))) (R3.below (by repeat (first | exact Below.refl _ _ | refine Below.alloc ?_ (by first | exact Nat.le_refl _ | (simp <;> omega)) _ | refine Below.setCell ?_ (by first | exact Nat.le_refl _ | (simp <;> omega)) _))) (R4.below (by repeat (first | exact Below.refl _ _ | refine Below.alloc ?_ (by first | exact Nat.le_refl _ | (simp <;> omega)) _ | refine Below.setCell ?_ (by first | exact Nat.le_refl _ | (simp <;> omega)) _))) k0 k1 k2 k3 k4).mono ?_
    rintro e w2 ⟨rfl, hb2⟩
    have hq2 : Below wX.heap.size wX w2 := bth (by repeat (first | exact Below.refl _ _ | refine Below.alloc ?_ (by first | exact Nat.le_refl _ | (simp <;> omega)) _ | refine Below.setCell ?_ (by first | exact Nat.le_refl _ | (simp <;> omega)) _)) hb2
    replace HB := bth HB hq2
    replace R0 := R0.below hq2
    replace R1 := R1.below hq2
    replace R2 := R2.below hq2
    replace R3 := R3.below hq2
    replace R4 := R4.below hq2
    replace hX := hX.below hq2 hX.lt
    replace z0 := (hX.cell 0).trans (show _ = some (.slice A0 x.rules.length c0) from rfl)
    replace z1 := (hX.cell 1).trans (show _ = some (.slice A1 x.pend.length c1) from rfl)
    replace z2 := (hX.cell 2).trans (show _ = some (.int .i64 x.turns) from rfl)
    replace z3 := (hX.cell 3).trans (show _ = some (.int .i64 x.secs) from rfl)
    replace z4 := (hX.cell 4).trans (show _ = some (.int .i64 x.spk) from rfl)
    replace z5 := (hX.cell 5).trans (show _ = some (.slice A2 x.wait.length c2) from rfl)
    replace z6 := (hX.cell 6).trans (show _ = some (.slice A3 x.shares.length c3) from rfl)
    replace z7 := (hX.cell 7).trans (show _ = some (.slice A4 x.outs.length c4) from rfl)
    replace z8 := (hX.cell 8).trans (show _ = some (.string x.dur) from rfl)
    replace z9 := (hX.cell 9).trans (show _ = some (.string x.pen) from rfl)
    replace z10 := (hX.cell 10).trans (show _ = some (.int .i64 x.cnt) from rfl)
    go_wp2
    go_ret2
    exact ⟨rfl, (bth HB (by repeat (first | exact Below.refl _ _ | refine Below.alloc ?_ (by first | exact Nat.le_refl _ | (simp <;> omega)) _ | refine Below.setCell ?_ (by first | exact Nat.le_refl _ | (simp <;> omega)) _)))⟩
  · have HV := Lib.hid hb
    have e : fmOut x = .tuple #[.string (fmS x), .bool true] := by simp [fmOut, hb]
    rw [e]
    obtain ⟨hp, hsp, ho, hc⟩ := con_parts hb
    have HPB := Lib.hid hp
    have HRB := Lib.hid (pendB_parts hp).1
    clear hb e hp
    go_enter Tryz.func10, Tryz.ntmps10
    go_upto_region 1 with fail
    have hq1 : Below w.heap.size w (World.alloc w (.cells #[.slice A0 x.rules.length c0, .slice A1 x.pend.length c1, .int .i64 x.turns, .int .i64 x.secs, .int .i64 x.spk, .slice A2 x.wait.length c2, .slice A3 x.shares.length c3, .slice A4 x.outs.length c4, .string x.dur, .string x.pen, .int .i64 x.cnt] 47)) := bl1 w _
    have hX : Blk (World.alloc w (.cells #[.slice A0 x.rules.length c0, .slice A1 x.pend.length c1, .int .i64 x.turns, .int .i64 x.secs, .int .i64 x.spk, .slice A2 x.wait.length c2, .slice A3 x.shares.length c3, .slice A4 x.outs.length c4, .string x.dur, .string x.pen, .int .i64 x.cnt] 47)) (w.heap.size) 47 #[.slice A0 x.rules.length c0, .slice A1 x.pend.length c1, .int .i64 x.turns, .int .i64 x.secs, .int .i64 x.spk, .slice A2 x.wait.length c2, .slice A3 x.shares.length c3, .slice A4 x.outs.length c4, .string x.dur, .string x.pen, .int .i64 x.cnt] := by repeat (first | exact Blk.new _ _ _ | exact Blk.new2 _ _ _ _ | exact Blk.new3 _ _ _ _ _ | exact Blk.new4 _ _ _ _ _ _ | refine Blk.alloc ?_ _)
    replace R0 := R0.below hq1
    replace R1 := R1.below hq1
    replace R2 := R2.below hq1
    replace R3 := R3.below hq1
    replace R4 := R4.below hq1
    generalize World.alloc w (.cells #[.slice A0 x.rules.length c0, .slice A1 x.pend.length c1, .int .i64 x.turns, .int .i64 x.secs, .int .i64 x.spk, .slice A2 x.wait.length c2, .slice A3 x.shares.length c3, .slice A4 x.outs.length c4, .string x.dur, .string x.pen, .int .i64 x.cnt] 47) = wX at *
    have HB := hq1
    have z0 := (hX.cell 0).trans (show _ = some (.slice A0 x.rules.length c0) from rfl)
    have z1 := (hX.cell 1).trans (show _ = some (.slice A1 x.pend.length c1) from rfl)
    have z2 := (hX.cell 2).trans (show _ = some (.int .i64 x.turns) from rfl)
    have z3 := (hX.cell 3).trans (show _ = some (.int .i64 x.secs) from rfl)
    have z4 := (hX.cell 4).trans (show _ = some (.int .i64 x.spk) from rfl)
    have z5 := (hX.cell 5).trans (show _ = some (.slice A2 x.wait.length c2) from rfl)
    have z6 := (hX.cell 6).trans (show _ = some (.slice A3 x.shares.length c3) from rfl)
    have z7 := (hX.cell 7).trans (show _ = some (.slice A4 x.outs.length c4) from rfl)
    have z8 := (hX.cell 8).trans (show _ = some (.string x.dur) from rfl)
    have z9 := (hX.cell 9).trans (show _ = some (.string x.pen) from rfl)
    have z10 := (hX.cell 10).trans (show _ = some (.int .i64 x.cnt) from rfl)
    have yhX := hX.lt
    go_wp2_with fail
    refine (l28Good_is x A0 A1 A2 A3 A4 c0 c1 c2 c3 c4 h0 h1 h2 h3 h4 hz _ HV.out _ (R0.below (by repeat (first | exact Below.refl _ _ | refine Below.alloc ?_ (by first | exact Nat.le_refl _ | (simp <;> omega)) _ | refine Below.setCell ?_ (by first | exact Nat.le_refl _ | (simp <;> omega)) _))) (R1.below (by repeat (first | exact Below.refl _ _ | refine Below.alloc ?_ (by first | exact Nat.le_refl _ | (simp <;> omega)) _ | refine Below.setCell ?_ (by first | exact Nat.le_refl _ | (simp <;> omega)) _))) (R2.below (by repeat (first | exact Below.refl _ _ | refine Below.alloc ?_ (by first | exact Nat.le_refl _ | (simp <;> omega)) _ | refine Below.setCell ?_ (by first | exact Nat.le_refl _ | (simp <;> omega)) _))) (R3.below (by repeat (first | exact Below.refl _ _ | refine Below.alloc ?_ (by first | exact Nat.le_refl _ | (simp <;> omega)) _ | refine Below.setCell ?_ (by first | exact Nat.le_refl _ | (simp <;> omega)) _))) (R4.below (by repeat (first | exact Below.refl _ _ | refine Below.alloc ?_ (by first | exact Nat.le_refl _ | (simp <;> omega)) _ | refine Below.setCell ?_ (by first | exact Nat.le_refl _ | (simp <;> omega)) _))) k0 k1 k2 k3 k4).mono ?_
    rintro e w2 ⟨rfl, hb2⟩
    have hq2 : Below wX.heap.size wX w2 := bth (by repeat (first | exact Below.refl _ _ | refine Below.alloc ?_ (by first | exact Nat.le_refl _ | (simp <;> omega)) _ | refine Below.setCell ?_ (by first | exact Nat.le_refl _ | (simp <;> omega)) _)) hb2
    replace HB := bth HB hq2
    replace R0 := R0.below hq2
    replace R1 := R1.below hq2
    replace R2 := R2.below hq2
    replace R3 := R3.below hq2
    replace R4 := R4.below hq2
    replace hX := hX.below hq2 hX.lt
    replace z0 := (hX.cell 0).trans (show _ = some (.slice A0 x.rules.length c0) from rfl)
    replace z1 := (hX.cell 1).trans (show _ = some (.slice A1 x.pend.length c1) from rfl)
    replace z2 := (hX.cell 2).trans (show _ = some (.int .i64 x.turns) from rfl)
    replace z3 := (hX.cell 3).trans (show _ = some (.int .i64 x.secs) from rfl)
    replace z4 := (hX.cell 4).trans (show _ = some (.int .i64 x.spk) from rfl)
    replace z5 := (hX.cell 5).trans (show _ = some (.slice A2 x.wait.length c2) from rfl)
    replace z6 := (hX.cell 6).trans (show _ = some (.slice A3 x.shares.length c3) from rfl)
    replace z7 := (hX.cell 7).trans (show _ = some (.slice A4 x.outs.length c4) from rfl)
    replace z8 := (hX.cell 8).trans (show _ = some (.string x.dur) from rfl)
    replace z9 := (hX.cell 9).trans (show _ = some (.string x.pen) from rfl)
    replace z10 := (hX.cell 10).trans (show _ = some (.int .i64 x.cnt) from rfl)
    have yhX := hX.lt
    go_upto_region 4 with fail
    have hq3 : Below w2.heap.size w2 (World.alloc w2 (.cells #[.slice A0 x.rules.length c0, .slice A1 x.pend.length c1, .int .i64 x.turns, .int .i64 x.secs, .int .i64 x.spk, .slice A2 x.wait.length c2, .slice A3 x.shares.length c3, .slice A4 x.outs.length c4] 44)) := bl1 w2 _
    have hM : Blk (World.alloc w2 (.cells #[.slice A0 x.rules.length c0, .slice A1 x.pend.length c1, .int .i64 x.turns, .int .i64 x.secs, .int .i64 x.spk, .slice A2 x.wait.length c2, .slice A3 x.shares.length c3, .slice A4 x.outs.length c4] 44)) (w2.heap.size) 44 #[.slice A0 x.rules.length c0, .slice A1 x.pend.length c1, .int .i64 x.turns, .int .i64 x.secs, .int .i64 x.spk, .slice A2 x.wait.length c2, .slice A3 x.shares.length c3, .slice A4 x.outs.length c4] := by repeat (first | exact Blk.new _ _ _ | exact Blk.new2 _ _ _ _ | exact Blk.new3 _ _ _ _ _ | exact Blk.new4 _ _ _ _ _ _ | refine Blk.alloc ?_ _)
    replace R0 := R0.below hq3
    replace R1 := R1.below hq3
    replace R2 := R2.below hq3
    replace R3 := R3.below hq3
    replace R4 := R4.below hq3
    generalize World.alloc w2 (.cells #[.slice A0 x.rules.length c0, .slice A1 x.pend.length c1, .int .i64 x.turns, .int .i64 x.secs, .int .i64 x.spk, .slice A2 x.wait.length c2, .slice A3 x.shares.length c3, .slice A4 x.outs.length c4] 44) = wM at *
    replace HB := bth HB hq3
    have b0 := (hM.cell 0).trans (show _ = some (.slice A0 x.rules.length c0) from rfl)
    have b1 := (hM.cell 1).trans (show _ = some (.slice A1 x.pend.length c1) from rfl)
    have b2 := (hM.cell 2).trans (show _ = some (.int .i64 x.turns) from rfl)
    have b3 := (hM.cell 3).trans (show _ = some (.int .i64 x.secs) from rfl)
    have b4 := (hM.cell 4).trans (show _ = some (.int .i64 x.spk) from rfl)
    have b5 := (hM.cell 5).trans (show _ = some (.slice A2 x.wait.length c2) from rfl)
    have b6 := (hM.cell 6).trans (show _ = some (.slice A3 x.shares.length c3) from rfl)
    have b7 := (hM.cell 7).trans (show _ = some (.slice A4 x.outs.length c4) from rfl)
    replace hX := hX.below hq3 hX.lt
    clear z0 z1 z2 z3 z4 z5 z6 z7 z8 z9 z10
    have z0 := (hX.cell 0).trans (show _ = some (.slice A0 x.rules.length c0) from rfl)
    have z1 := (hX.cell 1).trans (show _ = some (.slice A1 x.pend.length c1) from rfl)
    have z2 := (hX.cell 2).trans (show _ = some (.int .i64 x.turns) from rfl)
    have z3 := (hX.cell 3).trans (show _ = some (.int .i64 x.secs) from rfl)
    have z4 := (hX.cell 4).trans (show _ = some (.int .i64 x.spk) from rfl)
    have z5 := (hX.cell 5).trans (show _ = some (.slice A2 x.wait.length c2) from rfl)
    have z6 := (hX.cell 6).trans (show _ = some (.slice A3 x.shares.length c3) from rfl)
    have z7 := (hX.cell 7).trans (show _ = some (.slice A4 x.outs.length c4) from rfl)
    have z8 := (hX.cell 8).trans (show _ = some (.string x.dur) from rfl)
    have z9 := (hX.cell 9).trans (show _ = some (.string x.pen) from rfl)
    have z10 := (hX.cell 10).trans (show _ = some (.int .i64 x.cnt) from rfl)
    have yhM := hM.lt
    have yhX := hX.lt
    go_wp2_with fail
    refine (l2Text_is A0 c0 x.rules HRB.out _ (R0.below (by repeat (first | exact Below.refl _ _ | refine Below.alloc ?_ (by first | exact Nat.le_refl _ | (simp <;> omega)) _ | refine Below.setCell ?_ (by first | exact Nat.le_refl _ | (simp <;> omega)) _)))).mono ?_
    rintro e w4 ⟨rfl, hb4⟩
    have hq4 : Below wM.heap.size wM w4 := bth (by repeat (first | exact Below.refl _ _ | refine Below.alloc ?_ (by first | exact Nat.le_refl _ | (simp <;> omega)) _ | refine Below.setCell ?_ (by first | exact Nat.le_refl _ | (simp <;> omega)) _)) hb4
    replace HB := bth HB hq4
    replace R0 := R0.below hq4
    replace R1 := R1.below hq4
    replace R2 := R2.below hq4
    replace R3 := R3.below hq4
    replace R4 := R4.below hq4
    replace hM := hM.below hq4 hM.lt
    replace b0 := (hM.cell 0).trans (show _ = some (.slice A0 x.rules.length c0) from rfl)
    replace b1 := (hM.cell 1).trans (show _ = some (.slice A1 x.pend.length c1) from rfl)
    replace b2 := (hM.cell 2).trans (show _ = some (.int .i64 x.turns) from rfl)
    replace b3 := (hM.cell 3).trans (show _ = some (.int .i64 x.secs) from rfl)
    replace b4 := (hM.cell 4).trans (show _ = some (.int .i64 x.spk) from rfl)
    replace b5 := (hM.cell 5).trans (show _ = some (.slice A2 x.wait.length c2) from rfl)
    replace b6 := (hM.cell 6).trans (show _ = some (.slice A3 x.shares.length c3) from rfl)
    replace b7 := (hM.cell 7).trans (show _ = some (.slice A4 x.outs.length c4) from rfl)
    replace hX := hX.below hq4 hX.lt
    replace z0 := (hX.cell 0).trans (show _ = some (.slice A0 x.rules.length c0) from rfl)
    replace z1 := (hX.cell 1).trans (show _ = some (.slice A1 x.pend.length c1) from rfl)
    replace z2 := (hX.cell 2).trans (show _ = some (.int .i64 x.turns) from rfl)
    replace z3 := (hX.cell 3).trans (show _ = some (.int .i64 x.secs) from rfl)
    replace z4 := (hX.cell 4).trans (show _ = some (.int .i64 x.spk) from rfl)
    replace z5 := (hX.cell 5).trans (show _ = some (.slice A2 x.wait.length c2) from rfl)
    replace z6 := (hX.cell 6).trans (show _ = some (.slice A3 x.shares.length c3) from rfl)
    replace z7 := (hX.cell 7).trans (show _ = some (.slice A4 x.outs.length c4) from rfl)
    replace z8 := (hX.cell 8).trans (show _ = some (.string x.dur) from rfl)
    replace z9 := (hX.cell 9).trans (show _ = some (.string x.pen) from rfl)
    replace z10 := (hX.cell 10).trans (show _ = some (.int .i64 x.cnt) from rfl)
    have HR0 := Lib.hid R0; have HR1 := Lib.hid R1
    clear R0 R1 R2 R3 R4
    have yhM := hM.lt
    have yhX := hX.lt
    go_wp2
    clear z0 z1 z2 z3 z4 z5 z6 z7 z8 z9 z10 b0 b1 b2 b3 b4 b5 b6 b7
    go_loopw [5, 6] (fun t i wr => ∃ k : Nat, k ≤ x.pend.length ∧ t = .string (fmT x k) ∧ i = .int .i64 k ∧ Below w4.heap.size w4 wr) (fun _ i _ => x.pend.length - (intOf i).toNat)
    case atStart => exact ⟨0, Nat.zero_le _, rfl, rfl, Below.refl _ _⟩
    case round =>
      obtain ⟨k, hk, rfl, rfl, hb⟩ := hrel
      have hMr := hM.below hb hM.lt
      have m0 := (hMr.cell 0).trans (show _ = some (.slice A0 x.rules.length c0) from rfl)
      have m1 := (hMr.cell 1).trans (show _ = some (.slice A1 x.pend.length c1) from rfl)
      have hMl := hMr.lt
      have hts := fmT_size HPB.out k
      have hk6 := (pendB_parts HPB.out).2.1
      by_cases hlt : k < x.pend.length
      · obtain ⟨bq, oq, ⟨qr, qm, qe⟩, rfl, hbl, hq, hcq⟩ := HR1.out.at_ hb hlt
        obtain ⟨r, hr⟩ := pendB_found HPB.out hq
        have hnm := name_size HRB.out hr
        have hmv := inB_iff.1 (pendB_mover HPB.out hq)
        simp only at hmv
        have hns := numS_size qm (by omega)
        have HQ := Lib.hid hq; have HRR := Lib.hid hr
        have p0 := hcq 0 _ rfl
        have p1 := hcq 1 _ rfl
        have p2 := hcq 2 _ rfl
        simp only [Nat.add_zero] at p0
        have g0 := p0 (Kin.self _)
        have g1 := p1 (Kin.self _)
        have g2 := p2 (Kin.self _)
        simp only [Kin.self] at g0
        simp only [Kin.self] at g1
        simp only [Kin.self] at g2
        clear hcq p0 p1 p2 hq hr
        go_upto_region 9 with fail
        have hQ := Blk.new wr 63 #[.int .i64 qr, .int .i64 qm, .bool qe]
        have hbv := hb.alloc hb.size (.cells #[.int .i64 qr, .int .i64 qm, .bool qe] 63)
        generalize wr.alloc (.cells #[.int .i64 qr, .int .i64 qm, .bool qe] 63) = wv at *
        clear g0 g1 g2 m0 m1
        have hMv := hM.below hbv hM.lt
        have f0 := fun K : Kin wv.heap.size wv => ((hMv.below K.below hMv.lt).cell 0).trans (show _ = some (.slice A0 x.rules.length c0) from rfl)
        have q0 := fun K : Kin wv.heap.size wv => ((hQ.below K.below hQ.lt).cell 0).trans (show _ = some (.int .i64 qr) from rfl)
        have q1 := fun K : Kin wv.heap.size wv => ((hQ.below K.below hQ.lt).cell 1).trans (show _ = some (.int .i64 qm) from rfl)
        have q2 := fun K : Kin wv.heap.size wv => ((hQ.below K.below hQ.lt).cell 2).trans (show _ = some (.bool qe) from rfl)
        have HRV := Lib.hid (fun K : Kin wv.heap.size wv => (HR0.out.below hbv).below K.below)
        obtain ⟨ri, rn, rk, rs, rd, ra, rx, rok⟩ := r
        simp only at hnm
        obtain ⟨kr, hik, hkr⟩ := idxB_some HRR.out
        have hkl := (List.getElem?_eq_some_iff.1 hkr).1
        have HIK := Lib.hid hik
        obtain ⟨br, orr, y, rfl, hbr, hy, hcy⟩ := (HR0.out.below hbv).at_ (Below.refl _ _) hkl
        obtain rfl : (⟨ri, rn, rk, rs, rd, ra, rx, rok⟩ : Rul) = y := Option.some.inj (hkr.symm.trans hy)
        have r0 := hcy 0 _ rfl
        have r1 := hcy 1 _ rfl
        have r2 := hcy 2 _ rfl
        have r3 := hcy 3 _ rfl
        have r4 := hcy 4 _ rfl
        have r5 := hcy 5 _ rfl
        have r6 := hcy 6 _ rfl
        simp only [Nat.add_zero] at r0
        clear hcy r0 r2 r3 r4 r5 r6 hy hkr hik
        refine wp_region_kin (by kernel_rfl) (by kernel_rfl) ?_
        repeat (go_big_quiet_step ((first | (go_at_call 22; exact Kin.call _ (by first | exact Nat.le_refl _ | omega) (l2FindB_is (some ⟨br, orr, none⟩) c0 x.rules h0 qr kr HIK.out _ (HRV.out _))) | (go_at_call 23; exact Kin.call _ (by first | exact Nat.le_refl _ | omega) (l1Num_is _ (by omega) (by omega) _)))))
        refine wpQuiet_nil ?_
        intro K
        have c2 := q2 K
        clear f0 q0 q1 q2 r1
        have e1 : ((⟨#[32, 98, 121, 32]⟩ : ByteArray) : ByteArray).size = 4 := rfl
        have hs1 : (fmT x k ++ rn ++ ((⟨#[32, 98, 121, 32]⟩ : ByteArray) : ByteArray) ++ numS qm).size ≤ 1500 := by simp only [ByteArray.size_append]; omega
        have HSS := Lib.hid (fmT_succ HQ.out HRR.out)
        cases qe
        all_goals
          go_wp2
          go_roundw
          case rel => exact ⟨k + 1, by omega, by rw [HSS.out]; simp [ByteArray.append_assoc], by go_num, bth hbv K.below⟩
          case measure => (simp [intOf] <;> omega)
      · obtain rfl : k = x.pend.length := by omega
        have hMv := hM.below hb hM.lt
        have hXv := hX.below hb hX.lt
        have f4 := fun K : Kin wr.heap.size wr => ((hMv.below K.below hMv.lt).cell 4).trans (show _ = some (.int .i64 x.spk) from rfl)
        have f7 := fun K : Kin wr.heap.size wr => ((hMv.below K.below hMv.lt).cell 7).trans (show _ = some (.slice A4 x.outs.length c4) from rfl)
        have f10 := fun K : Kin wr.heap.size wr => ((hXv.below K.below hXv.lt).cell 10).trans (show _ = some (.int .i64 x.cnt) from rfl)
        have n1 := numS_size x.spk (by omega)
        have n2 := numS_size (x.outs.length : Int) (by omega)
        have n3 := numS_size x.cnt (by omega)
        go_wp2
        refine wp_region_kin (by kernel_rfl) (by kernel_rfl) ?_
        repeat (go_big_quiet_step ((first | (go_at_call 23; exact Kin.call _ (by first | exact Nat.le_refl _ | omega) (l1Num_is _ (by omega) (by omega) _)))))
        refine wpQuiet_nil ?_
        intro K
        go_wp2
        go_ret2
        exact ⟨rfl, bth HB (bth hb K.below)⟩
end Go.Proofs.YtpkagohflkcnkaaGreatDoor
/- The law of FormatConsole: the program's answer is the reference's, for all arguments. -/
namespace Go.Proofs.YtpkagohflkcnkaaGreatDoor
open Go.RowKit Go.G9
/-- What the tables of the program must be for a console to be told. -/
def Tbw (w : World) : Prop := Tab w ∧ Phn w
theorem Tbw.below {w w' : World} (h : Tbw w) (hb : Below w.heap.size w w') : Tbw w' := ⟨h.1.below hb, h.2.below hb⟩
theorem iFormatW_is (x : Con) (A0 A1 A2 A3 A4 : Option Addr) (c0 c1 c2 c3 c4 : Nat) (h0 : x.rules.length ≤ 1048576) (h1 : x.pend.length ≤ 1048576) (h2 : x.wait.length ≤ 1048576) (h3 : x.shares.length ≤ 1048576) (h4 : x.outs.length ≤ 1048576) (hz : x.dur.size + x.pen.size ≤ 1048576) (v : Value) (hv : fmOut x = v) (w : World) (R0 : Rds 7 Rul.cells w A0 x.rules) (R1 : Rds 3 Que.cells w A1 x.pend) (R2 : Rds 1 intC w A2 x.wait) (R3 : Rds 3 Sha.cells w A3 x.shares) (R4 : Rds 3 Out.cells w A4 x.outs) (k0 : x.rules.length ≤ c0) (k1 : x.pend.length ≤ c1) (k2 : x.wait.length ≤ c2) (k3 : x.shares.length ≤ c3) (k4 : x.outs.length ≤ c4) (HT : Tbw w) :
  Calls Tryz.prog 11 #[.agg #[.slice A0 x.rules.length c0, .slice A1 x.pend.length c1, .int .i64 x.turns, .int .i64 x.secs, .int .i64 x.spk, .slice A2 x.wait.length c2, .slice A3 x.shares.length c3, .slice A4 x.outs.length c4, .string x.dur, .string x.pen, .int .i64 x.cnt]] w fun e w' => e = .returned v ∧ Below w.heap.size w w' :=
  iFormat_is x A0 A1 A2 A3 A4 c0 c1 c2 c3 c4 h0 h1 h2 h3 h4 hz v hv w R0 R1 R2 R3 R4 k0 k1 k2 k3 k4 HT.1 HT.2
set_option maxHeartbeats 8000000 in
set_option maxRecDepth 100000 in
theorem law_formatConsole (x : Con) (hx_s0 : x.dur.size ≤ maxLen) (hx_s1 : x.pen.size ≤ maxLen) (Ax_0 Ax_1 Ax_2 Ax_3 Ax_4 : Option Addr) (cx_0 cx_1 cx_2 cx_3 cx_4 : Nat) (hx_0 : x.rules.length ≤ maxLen) (hx_1 : x.pend.length ≤ maxLen) (hx_2 : x.wait.length ≤ maxLen) (hx_3 : x.shares.length ≤ maxLen) (hx_4 : x.outs.length ≤ maxLen) (w : World) (Rx_0 : Rds 7 Rul.cells w Ax_0 x.rules) (Rx_1 : Rds 3 Que.cells w Ax_1 x.pend) (Rx_2 : Rds 1 intC w Ax_2 x.wait) (Rx_3 : Rds 3 Sha.cells w Ax_3 x.shares) (Rx_4 : Rds 3 Out.cells w Ax_4 x.outs) (HT : Tbw w) :
  Calls Tryz.prog 4 #[.agg #[.slice Ax_0 x.rules.length cx_0, .slice Ax_1 x.pend.length cx_1, .int .i64 x.turns, .int .i64 x.secs, .int .i64 x.spk, .slice Ax_2 x.wait.length cx_2, .slice Ax_3 x.shares.length cx_3, .slice Ax_4 x.outs.length cx_4, .string x.dur, .string x.pen, .int .i64 x.cnt]] w fun e w' => e = .returned (.bool true) ∧ Below w.heap.size w w' := by
  obtain ⟨vs, vb, hv⟩ := fmOut_form x
  have HV := Lib.hid hv; clear hv
  go_enter Tryz.func4, Tryz.ntmps4
  go_wp2_with fail
  refine (szConsole_is x Ax_0 Ax_1 Ax_2 Ax_3 Ax_4 cx_0 cx_1 cx_2 cx_3 cx_4 hx_0 hx_1 hx_2 hx_3 hx_4 hx_s0 hx_s1 1048576 (by omega) (by omega) _ (Rx_0.below (by repeat (first | exact Below.refl _ _ | refine Below.alloc ?_ (by first | exact Nat.le_refl _ | (simp <;> omega)) _ | refine Below.setCell ?_ (by first | exact Nat.le_refl _ | (simp <;> omega)) _)))).mono ?_
  rintro e w1 ⟨r0, rfl, hr0, hs0, hl0, hb1⟩
  have hq1 : Below w.heap.size w w1 := bth (by repeat (first | exact Below.refl _ _ | refine Below.alloc ?_ (by first | exact Nat.le_refl _ | (simp <;> omega)) _ | refine Below.setCell ?_ (by first | exact Nat.le_refl _ | (simp <;> omega)) _)) hb1
  have z1 := hq1.size
  have HB : Below w.heap.size w w1 := hq1
  have X1 : Blk w1 (w.heap.size) 34 #[.slice Ax_0 x.rules.length cx_0, .slice Ax_1 x.pend.length cx_1, .int .i64 x.turns, .int .i64 x.secs, .int .i64 x.spk, .slice Ax_2 x.wait.length cx_2, .slice Ax_3 x.shares.length cx_3, .slice Ax_4 x.outs.length cx_4, .string x.dur, .string x.pen, .int .i64 x.cnt] := Blk.below (by repeat (first | exact Blk.new _ _ _ | exact Blk.new2 _ _ _ _ | exact Blk.new3 _ _ _ _ _ | refine Blk.alloc ?_ _)) hb1 (by simp <;> omega)
  have yX1 := X1.lt
  have X1_0 := (X1.cell 0).trans (show _ = some (.slice Ax_0 x.rules.length cx_0) from rfl)
  have X1_1 := (X1.cell 1).trans (show _ = some (.slice Ax_1 x.pend.length cx_1) from rfl)
  have X1_2 := (X1.cell 2).trans (show _ = some (.int .i64 x.turns) from rfl)
  have X1_3 := (X1.cell 3).trans (show _ = some (.int .i64 x.secs) from rfl)
  have X1_4 := (X1.cell 4).trans (show _ = some (.int .i64 x.spk) from rfl)
  have X1_5 := (X1.cell 5).trans (show _ = some (.slice Ax_2 x.wait.length cx_2) from rfl)
  have X1_6 := (X1.cell 6).trans (show _ = some (.slice Ax_3 x.shares.length cx_3) from rfl)
  have X1_7 := (X1.cell 7).trans (show _ = some (.slice Ax_4 x.outs.length cx_4) from rfl)
  have X1_8 := (X1.cell 8).trans (show _ = some (.string x.dur) from rfl)
  have X1_9 := (X1.cell 9).trans (show _ = some (.string x.pen) from rfl)
  have X1_10 := (X1.cell 10).trans (show _ = some (.int .i64 x.cnt) from rfl)
  by_cases h00 : r0 < 0
  · go_wp2
    go_ret
    exact ⟨rfl, bth HB (by repeat (first | exact Below.refl _ _ | refine Below.alloc ?_ (by first | exact Nat.le_refl _ | (simp <;> omega)) _ | refine Below.setCell ?_ (by first | exact Nat.le_refl _ | (simp <;> omega)) _))⟩
  clear X1_0 X1_1 X1_2 X1_3 X1_4 X1_5 X1_6 X1_7 X1_8 X1_9 X1_10
  have hx_0' : x.rules.length ≤ 1048576 := by omega
  have hx_1' : x.pend.length ≤ 1048576 := by omega
  have hx_2' : x.wait.length ≤ 1048576 := by omega
  have hx_3' : x.shares.length ≤ 1048576 := by omega
  have hx_4' : x.outs.length ≤ 1048576 := by omega
  have hx_t0 : x.dur.size + x.pen.size ≤ 1048576 := by omega
  clear hl0
  have X1_0 := (X1.cell 0).trans (show _ = some (.slice Ax_0 x.rules.length cx_0) from rfl)
  have X1_1 := (X1.cell 1).trans (show _ = some (.slice Ax_1 x.pend.length cx_1) from rfl)
  have X1_2 := (X1.cell 2).trans (show _ = some (.int .i64 x.turns) from rfl)
  have X1_3 := (X1.cell 3).trans (show _ = some (.int .i64 x.secs) from rfl)
  have X1_4 := (X1.cell 4).trans (show _ = some (.int .i64 x.spk) from rfl)
  have X1_5 := (X1.cell 5).trans (show _ = some (.slice Ax_2 x.wait.length cx_2) from rfl)
  have X1_6 := (X1.cell 6).trans (show _ = some (.slice Ax_3 x.shares.length cx_3) from rfl)
  have X1_7 := (X1.cell 7).trans (show _ = some (.slice Ax_4 x.outs.length cx_4) from rfl)
  have X1_8 := (X1.cell 8).trans (show _ = some (.string x.dur) from rfl)
  have X1_9 := (X1.cell 9).trans (show _ = some (.string x.pen) from rfl)
  have X1_10 := (X1.cell 10).trans (show _ = some (.int .i64 x.cnt) from rfl)
  go_wp2_with fail
  refine (toConsole_is x Ax_0 Ax_1 Ax_2 Ax_3 Ax_4 cx_0 cx_1 cx_2 cx_3 cx_4 hx_0' hx_1' hx_2' hx_3' hx_4' hx_t0 _ (Rx_0.below (bth HB (by repeat (first | exact Below.refl _ _ | refine Below.alloc ?_ (by first | exact Nat.le_refl _ | (simp <;> omega)) _ | refine Below.setCell ?_ (by first | exact Nat.le_refl _ | (simp <;> omega)) _)))) (Rx_1.below (bth HB (by repeat (first | exact Below.refl _ _ | refine Below.alloc ?_ (by first | exact Nat.le_refl _ | (simp <;> omega)) _ | refine Below.setCell ?_ (by first | exact Nat.le_refl _ | (simp <;> omega)) _)))) (Rx_2.below (bth HB (by repeat (first | exact Below.refl _ _ | refine Below.alloc ?_ (by first | exact Nat.le_refl _ | (simp <;> omega)) _ | refine Below.setCell ?_ (by first | exact Nat.le_refl _ | (simp <;> omega)) _)))) (Rx_3.below (bth HB (by repeat (first | exact Below.refl _ _ | refine Below.alloc ?_ (by first | exact Nat.le_refl _ | (simp <;> omega)) _ | refine Below.setCell ?_ (by first | exact Nat.le_refl _ | (simp <;> omega)) _)))) (Rx_4.below (bth HB (by repeat (first | exact Below.refl _ _ | refine Below.alloc ?_ (by first | exact Nat.le_refl _ | (simp <;> omega)) _ | refine Below.setCell ?_ (by first | exact Nat.le_refl _ | (simp <;> omega)) _))))).mono ?_
  rintro e w2 ⟨As0_0, As0_1, As0_2, As0_3, As0_4, rfl, Os0_0, Os0_1, Os0_2, Os0_3, Os0_4, aps0, hb2⟩
  clear X1_0 X1_1 X1_2 X1_3 X1_4 X1_5 X1_6 X1_7 X1_8 X1_9 X1_10
  have hq2 : Below w1.heap.size w1 w2 := bth (by repeat (first | exact Below.refl _ _ | refine Below.alloc ?_ (by first | exact Nat.le_refl _ | (simp <;> omega)) _ | refine Below.setCell ?_ (by first | exact Nat.le_refl _ | (simp <;> omega)) _)) hb2
  have z2 := hq2.size
  replace HB := bth HB hq2
  replace X1 := X1.below hq2 X1.lt
  have ins0 : Within [.slice As0_0 x.rules.length x.rules.length, .slice As0_1 x.pend.length x.pend.length, .slice As0_2 x.wait.length x.wait.length, .slice As0_3 x.shares.length x.shares.length, .slice As0_4 x.outs.length x.outs.length] (w1.heap.size) (w2.heap.size) := by
    intro v hv k hk
    simp only [List.mem_cons, List.not_mem_nil, or_false] at hv
    rcases hv with rfl | hv
    · have h := Os0_0.lt k hk; (try simp at h); omega
    rcases hv with rfl | hv
    · have h := Os0_1.lt k hk; (try simp at h); omega
    rcases hv with rfl | hv
    · have h := Os0_2.lt k hk; (try simp at h); omega
    rcases hv with rfl | hv
    · have h := Os0_3.lt k hk; (try simp at h); omega
    subst hv
    have h := Os0_4.lt k hk; (try simp at h); omega
  have X1_0 := (X1.cell 0).trans (show _ = some (.slice Ax_0 x.rules.length cx_0) from rfl)
  have X1_1 := (X1.cell 1).trans (show _ = some (.slice Ax_1 x.pend.length cx_1) from rfl)
  have X1_2 := (X1.cell 2).trans (show _ = some (.int .i64 x.turns) from rfl)
  have X1_3 := (X1.cell 3).trans (show _ = some (.int .i64 x.secs) from rfl)
  have X1_4 := (X1.cell 4).trans (show _ = some (.int .i64 x.spk) from rfl)
  have X1_5 := (X1.cell 5).trans (show _ = some (.slice Ax_2 x.wait.length cx_2) from rfl)
  have X1_6 := (X1.cell 6).trans (show _ = some (.slice Ax_3 x.shares.length cx_3) from rfl)
  have X1_7 := (X1.cell 7).trans (show _ = some (.slice Ax_4 x.outs.length cx_4) from rfl)
  have X1_8 := (X1.cell 8).trans (show _ = some (.string x.dur) from rfl)
  have X1_9 := (X1.cell 9).trans (show _ = some (.string x.pen) from rfl)
  have X1_10 := (X1.cell 10).trans (show _ = some (.int .i64 x.cnt) from rfl)
  go_wp2_with fail
  refine (sFormat_is x As0_0 As0_1 As0_2 As0_3 As0_4 x.rules.length x.pend.length x.wait.length x.shares.length x.outs.length hx_0' hx_1' hx_2' hx_3' hx_4' hx_t0 _ HV.out _ (Os0_0.rds.below (by repeat (first | exact Below.refl _ _ | refine Below.alloc ?_ (by first | exact Nat.le_refl _ | (simp <;> omega)) _ | refine Below.setCell ?_ (by first | exact Nat.le_refl _ | (simp <;> omega)) _))) (Os0_1.rds.below (by repeat (first | exact Below.refl _ _ | refine Below.alloc ?_ (by first | exact Nat.le_refl _ | (simp <;> omega)) _ | refine Below.setCell ?_ (by first | exact Nat.le_refl _ | (simp <;> omega)) _))) (Os0_2.rds.below (by repeat (first | exact Below.refl _ _ | refine Below.alloc ?_ (by first | exact Nat.le_refl _ | (simp <;> omega)) _ | refine Below.setCell ?_ (by first | exact Nat.le_refl _ | (simp <;> omega)) _))) (Os0_3.rds.below (by repeat (first | exact Below.refl _ _ | refine Below.alloc ?_ (by first | exact Nat.le_refl _ | (simp <;> omega)) _ | refine Below.setCell ?_ (by first | exact Nat.le_refl _ | (simp <;> omega)) _))) (Os0_4.rds.below (by repeat (first | exact Below.refl _ _ | refine Below.alloc ?_ (by first | exact Nat.le_refl _ | (simp <;> omega)) _ | refine Below.setCell ?_ (by first | exact Nat.le_refl _ | (simp <;> omega)) _))) (Nat.le_refl _) (Nat.le_refl _) (Nat.le_refl _) (Nat.le_refl _) (Nat.le_refl _)).mono ?_
  rintro e w3 ⟨rfl, hb3⟩
  clear X1_0 X1_1 X1_2 X1_3 X1_4 X1_5 X1_6 X1_7 X1_8 X1_9 X1_10
  have hq3 : Below w2.heap.size w2 w3 := bth (by repeat (first | exact Below.refl _ _ | refine Below.alloc ?_ (by first | exact Nat.le_refl _ | (simp <;> omega)) _ | refine Below.setCell ?_ (by first | exact Nat.le_refl _ | (simp <;> omega)) _)) hb3
  have z3 := hq3.size
  replace HB := bth HB hq3
  replace Os0_0 := Os0_0.later hq3
  replace Os0_1 := Os0_1.later hq3
  replace Os0_2 := Os0_2.later hq3
  replace Os0_3 := Os0_3.later hq3
  replace Os0_4 := Os0_4.later hq3
  replace X1 := X1.below hq3 X1.lt
  have X1_0 := (X1.cell 0).trans (show _ = some (.slice Ax_0 x.rules.length cx_0) from rfl)
  have X1_1 := (X1.cell 1).trans (show _ = some (.slice Ax_1 x.pend.length cx_1) from rfl)
  have X1_2 := (X1.cell 2).trans (show _ = some (.int .i64 x.turns) from rfl)
  have X1_3 := (X1.cell 3).trans (show _ = some (.int .i64 x.secs) from rfl)
  have X1_4 := (X1.cell 4).trans (show _ = some (.int .i64 x.spk) from rfl)
  have X1_5 := (X1.cell 5).trans (show _ = some (.slice Ax_2 x.wait.length cx_2) from rfl)
  have X1_6 := (X1.cell 6).trans (show _ = some (.slice Ax_3 x.shares.length cx_3) from rfl)
  have X1_7 := (X1.cell 7).trans (show _ = some (.slice Ax_4 x.outs.length cx_4) from rfl)
  have X1_8 := (X1.cell 8).trans (show _ = some (.string x.dur) from rfl)
  have X1_9 := (X1.cell 9).trans (show _ = some (.string x.pen) from rfl)
  have X1_10 := (X1.cell 10).trans (show _ = some (.int .i64 x.cnt) from rfl)
  go_wp2_with fail
  refine (toConsole_is x Ax_0 Ax_1 Ax_2 Ax_3 Ax_4 cx_0 cx_1 cx_2 cx_3 cx_4 hx_0' hx_1' hx_2' hx_3' hx_4' hx_t0 _ (Rx_0.below (bth HB (by repeat (first | exact Below.refl _ _ | refine Below.alloc ?_ (by first | exact Nat.le_refl _ | (simp <;> omega)) _ | refine Below.setCell ?_ (by first | exact Nat.le_refl _ | (simp <;> omega)) _)))) (Rx_1.below (bth HB (by repeat (first | exact Below.refl _ _ | refine Below.alloc ?_ (by first | exact Nat.le_refl _ | (simp <;> omega)) _ | refine Below.setCell ?_ (by first | exact Nat.le_refl _ | (simp <;> omega)) _)))) (Rx_2.below (bth HB (by repeat (first | exact Below.refl _ _ | refine Below.alloc ?_ (by first | exact Nat.le_refl _ | (simp <;> omega)) _ | refine Below.setCell ?_ (by first | exact Nat.le_refl _ | (simp <;> omega)) _)))) (Rx_3.below (bth HB (by repeat (first | exact Below.refl _ _ | refine Below.alloc ?_ (by first | exact Nat.le_refl _ | (simp <;> omega)) _ | refine Below.setCell ?_ (by first | exact Nat.le_refl _ | (simp <;> omega)) _)))) (Rx_4.below (bth HB (by repeat (first | exact Below.refl _ _ | refine Below.alloc ?_ (by first | exact Nat.le_refl _ | (simp <;> omega)) _ | refine Below.setCell ?_ (by first | exact Nat.le_refl _ | (simp <;> omega)) _))))).mono ?_
  rintro e w4 ⟨Ax0_0, Ax0_1, Ax0_2, Ax0_3, Ax0_4, rfl, Ox0_0, Ox0_1, Ox0_2, Ox0_3, Ox0_4, apx0, hb4⟩
  clear X1_0 X1_1 X1_2 X1_3 X1_4 X1_5 X1_6 X1_7 X1_8 X1_9 X1_10
  have hq4 : Below w3.heap.size w3 w4 := bth (by repeat (first | exact Below.refl _ _ | refine Below.alloc ?_ (by first | exact Nat.le_refl _ | (simp <;> omega)) _ | refine Below.setCell ?_ (by first | exact Nat.le_refl _ | (simp <;> omega)) _)) hb4
  have z4 := hq4.size
  replace HB := bth HB hq4
  replace X1 := X1.below hq4 X1.lt
  have inx0 : Within [.slice Ax0_0 x.rules.length x.rules.length, .slice Ax0_1 x.pend.length x.pend.length, .slice Ax0_2 x.wait.length x.wait.length, .slice Ax0_3 x.shares.length x.shares.length, .slice Ax0_4 x.outs.length x.outs.length] (w3.heap.size) (w4.heap.size) := by
    intro v hv k hk
    simp only [List.mem_cons, List.not_mem_nil, or_false] at hv
    rcases hv with rfl | hv
    · have h := Ox0_0.lt k hk; (try simp at h); omega
    rcases hv with rfl | hv
    · have h := Ox0_1.lt k hk; (try simp at h); omega
    rcases hv with rfl | hv
    · have h := Ox0_2.lt k hk; (try simp at h); omega
    rcases hv with rfl | hv
    · have h := Ox0_3.lt k hk; (try simp at h); omega
    subst hv
    have h := Ox0_4.lt k hk; (try simp at h); omega
  have X1_l0 : w.heap.size < w4.heap.size := by have h := X1.lt; omega
  have X1_0 := (X1.cell 0).trans (show _ = some (.slice Ax_0 x.rules.length cx_0) from rfl)
  have X1_1 := (X1.cell 1).trans (show _ = some (.slice Ax_1 x.pend.length cx_1) from rfl)
  have X1_2 := (X1.cell 2).trans (show _ = some (.int .i64 x.turns) from rfl)
  have X1_3 := (X1.cell 3).trans (show _ = some (.int .i64 x.secs) from rfl)
  have X1_4 := (X1.cell 4).trans (show _ = some (.int .i64 x.spk) from rfl)
  have X1_5 := (X1.cell 5).trans (show _ = some (.slice Ax_2 x.wait.length cx_2) from rfl)
  have X1_6 := (X1.cell 6).trans (show _ = some (.slice Ax_3 x.shares.length cx_3) from rfl)
  have X1_7 := (X1.cell 7).trans (show _ = some (.slice Ax_4 x.outs.length cx_4) from rfl)
  have X1_8 := (X1.cell 8).trans (show _ = some (.string x.dur) from rfl)
  have X1_9 := (X1.cell 9).trans (show _ = some (.string x.pen) from rfl)
  have X1_10 := (X1.cell 10).trans (show _ = some (.int .i64 x.cnt) from rfl)
  go_wp2_with fail
  refine (iFormatW_is x Ax0_0 Ax0_1 Ax0_2 Ax0_3 Ax0_4 x.rules.length x.pend.length x.wait.length x.shares.length x.outs.length hx_0' hx_1' hx_2' hx_3' hx_4' hx_t0 _ HV.out _ (Ox0_0.rds.below (by repeat (first | exact Below.refl _ _ | refine Below.alloc ?_ (by first | exact Nat.le_refl _ | (simp <;> omega)) _ | refine Below.setCell ?_ (by first | exact Nat.le_refl _ | (simp <;> omega)) _))) (Ox0_1.rds.below (by repeat (first | exact Below.refl _ _ | refine Below.alloc ?_ (by first | exact Nat.le_refl _ | (simp <;> omega)) _ | refine Below.setCell ?_ (by first | exact Nat.le_refl _ | (simp <;> omega)) _))) (Ox0_2.rds.below (by repeat (first | exact Below.refl _ _ | refine Below.alloc ?_ (by first | exact Nat.le_refl _ | (simp <;> omega)) _ | refine Below.setCell ?_ (by first | exact Nat.le_refl _ | (simp <;> omega)) _))) (Ox0_3.rds.below (by repeat (first | exact Below.refl _ _ | refine Below.alloc ?_ (by first | exact Nat.le_refl _ | (simp <;> omega)) _ | refine Below.setCell ?_ (by first | exact Nat.le_refl _ | (simp <;> omega)) _))) (Ox0_4.rds.below (by repeat (first | exact Below.refl _ _ | refine Below.alloc ?_ (by first | exact Nat.le_refl _ | (simp <;> omega)) _ | refine Below.setCell ?_ (by first | exact Nat.le_refl _ | (simp <;> omega)) _))) (Nat.le_refl _) (Nat.le_refl _) (Nat.le_refl _) (Nat.le_refl _) (Nat.le_refl _) (HT.below (bth HB (by repeat (first | exact Below.refl _ _ | refine Below.alloc ?_ (by first | exact Nat.le_refl _ | (simp <;> omega)) _ | refine Below.setCell ?_ (by first | exact Nat.le_refl _ | (simp <;> omega)) _))))).mono ?_
  rintro e w5 ⟨rfl, hb5⟩
  clear X1_l0 X1_0 X1_1 X1_2 X1_3 X1_4 X1_5 X1_6 X1_7 X1_8 X1_9 X1_10
  have hq5 : Below w4.heap.size w4 w5 := bth (by repeat (first | exact Below.refl _ _ | refine Below.alloc ?_ (by first | exact Nat.le_refl _ | (simp <;> omega)) _ | refine Below.setCell ?_ (by first | exact Nat.le_refl _ | (simp <;> omega)) _)) hb5
  have z5 := hq5.size
  replace HB := bth HB hq5
  replace Ox0_0 := Ox0_0.later hq5
  replace Ox0_1 := Ox0_1.later hq5
  replace Ox0_2 := Ox0_2.later hq5
  replace Ox0_3 := Ox0_3.later hq5
  replace Ox0_4 := Ox0_4.later hq5
  replace X1 := X1.below hq5 X1.lt
  have X2 : Blk w5 (w4.heap.size) 47 #[.slice Ax0_0 x.rules.length x.rules.length, .slice Ax0_1 x.pend.length x.pend.length, .int .i64 x.turns, .int .i64 x.secs, .int .i64 x.spk, .slice Ax0_2 x.wait.length x.wait.length, .slice Ax0_3 x.shares.length x.shares.length, .slice Ax0_4 x.outs.length x.outs.length, .string x.dur, .string x.pen, .int .i64 x.cnt] := Blk.below (by repeat (first | exact Blk.new _ _ _ | exact Blk.new2 _ _ _ _ | exact Blk.new3 _ _ _ _ _ | refine Blk.alloc ?_ _)) hb5 (by simp <;> omega)
  have yX2 := X2.lt
  have X1_a : ∀ W, Below w5.heap.size w5 W → Blk W (w.heap.size) 34 #[.slice Ax_0 x.rules.length cx_0, .slice Ax_1 x.pend.length cx_1, .int .i64 x.turns, .int .i64 x.secs, .int .i64 x.spk, .slice Ax_2 x.wait.length cx_2, .slice Ax_3 x.shares.length cx_3, .slice Ax_4 x.outs.length cx_4, .string x.dur, .string x.pen, .int .i64 x.cnt] := fun W h => X1.below h X1.lt
  have X2_a : ∀ W, Below w5.heap.size w5 W → Blk W (w4.heap.size) 47 #[.slice Ax0_0 x.rules.length x.rules.length, .slice Ax0_1 x.pend.length x.pend.length, .int .i64 x.turns, .int .i64 x.secs, .int .i64 x.spk, .slice Ax0_2 x.wait.length x.wait.length, .slice Ax0_3 x.shares.length x.shares.length, .slice Ax0_4 x.outs.length x.outs.length, .string x.dur, .string x.pen, .int .i64 x.cnt] := fun W h => X2.below h X2.lt
  have X1_0 := fun W hW => ((X1_a W hW).cell 0).trans (show _ = some (.slice Ax_0 x.rules.length cx_0) from rfl)
  have X1_1 := fun W hW => ((X1_a W hW).cell 1).trans (show _ = some (.slice Ax_1 x.pend.length cx_1) from rfl)
  have X1_2 := fun W hW => ((X1_a W hW).cell 2).trans (show _ = some (.int .i64 x.turns) from rfl)
  have X1_3 := fun W hW => ((X1_a W hW).cell 3).trans (show _ = some (.int .i64 x.secs) from rfl)
  have X1_4 := fun W hW => ((X1_a W hW).cell 4).trans (show _ = some (.int .i64 x.spk) from rfl)
  have X1_5 := fun W hW => ((X1_a W hW).cell 5).trans (show _ = some (.slice Ax_2 x.wait.length cx_2) from rfl)
  have X1_6 := fun W hW => ((X1_a W hW).cell 6).trans (show _ = some (.slice Ax_3 x.shares.length cx_3) from rfl)
  have X1_7 := fun W hW => ((X1_a W hW).cell 7).trans (show _ = some (.slice Ax_4 x.outs.length cx_4) from rfl)
  have X1_8 := fun W hW => ((X1_a W hW).cell 8).trans (show _ = some (.string x.dur) from rfl)
  have X1_9 := fun W hW => ((X1_a W hW).cell 9).trans (show _ = some (.string x.pen) from rfl)
  have X1_10 := fun W hW => ((X1_a W hW).cell 10).trans (show _ = some (.int .i64 x.cnt) from rfl)
  have X2_0 := fun W hW => ((X2_a W hW).cell 0).trans (show _ = some (.slice Ax0_0 x.rules.length x.rules.length) from rfl)
  have X2_1 := fun W hW => ((X2_a W hW).cell 1).trans (show _ = some (.slice Ax0_1 x.pend.length x.pend.length) from rfl)
  have X2_2 := fun W hW => ((X2_a W hW).cell 2).trans (show _ = some (.int .i64 x.turns) from rfl)
  have X2_3 := fun W hW => ((X2_a W hW).cell 3).trans (show _ = some (.int .i64 x.secs) from rfl)
  have X2_4 := fun W hW => ((X2_a W hW).cell 4).trans (show _ = some (.int .i64 x.spk) from rfl)
  have X2_5 := fun W hW => ((X2_a W hW).cell 5).trans (show _ = some (.slice Ax0_2 x.wait.length x.wait.length) from rfl)
  have X2_6 := fun W hW => ((X2_a W hW).cell 6).trans (show _ = some (.slice Ax0_3 x.shares.length x.shares.length) from rfl)
  have X2_7 := fun W hW => ((X2_a W hW).cell 7).trans (show _ = some (.slice Ax0_4 x.outs.length x.outs.length) from rfl)
  have X2_8 := fun W hW => ((X2_a W hW).cell 8).trans (show _ = some (.string x.dur) from rfl)
  have X2_9 := fun W hW => ((X2_a W hW).cell 9).trans (show _ = some (.string x.pen) from rfl)
  have X2_10 := fun W hW => ((X2_a W hW).cell 10).trans (show _ = some (.int .i64 x.cnt) from rfl)
  clear X1_a X2_a
  go_wp2
  go_region_held3 (fun W => Below w5.heap.size w5 W) (first | exact (Below.refl _ _).drew | assumption) ((first
    | (go_at_call 7; refine (toConsole_is x Ax_0 Ax_1 Ax_2 Ax_3 Ax_4 cx_0 cx_1 cx_2 cx_3 cx_4 hx_0' hx_1' hx_2' hx_3' hx_4' hx_t0 _ (Rx_0.below (bth HB (Below.refl _ _).drew)) (Rx_1.below (bth HB (Below.refl _ _).drew)) (Rx_2.below (bth HB (Below.refl _ _).drew)) (Rx_3.below (bth HB (Below.refl _ _).drew)) (Rx_4.below (bth HB (Below.refl _ _).drew))).mono ?_; rintro e w6 ⟨Ay0_0, Ay0_1, Ay0_2, Ay0_3, Ay0_4, rfl, Oy0_0, Oy0_1, Oy0_2, Oy0_3, Oy0_4, _, hb6⟩; have hk6 : Below w5.heap.size w5 w6 := bth (Below.refl _ _).drew hb6)
    | (go_at_call 9; refine (eqConsole_is x Ax0_0 Ax0_1 Ax0_2 Ax0_3 Ax0_4 Ay0_0 Ay0_1 Ay0_2 Ay0_3 Ay0_4 x.rules.length x.pend.length x.wait.length x.shares.length x.outs.length x.rules.length x.pend.length x.wait.length x.shares.length x.outs.length hx_0' hx_1' hx_2' hx_3' hx_4' _ (Ox0_0.rds.below hk6) (Ox0_1.rds.below hk6) (Ox0_2.rds.below hk6) (Ox0_3.rds.below hk6) (Ox0_4.rds.below hk6) Oy0_0.rds Oy0_1.rds Oy0_2.rds Oy0_3.rds Oy0_4.rds).mono ?_; rintro e w7 ⟨rfl, hb7⟩; have hk7 : Below w5.heap.size w5 w7 := bth hk6 hb7)))
  clear X1_0 X1_1 X1_2 X1_3 X1_4 X1_5 X1_6 X1_7 X1_8 X1_9 X1_10 X2_0 X2_1 X2_2 X2_3 X2_4 X2_5 X2_6 X2_7 X2_8 X2_9 X2_10
  have z7 := hk7.size
  replace HB := bth HB hk7
  replace Ox0_0 := Ox0_0.later hk7
  replace Ox0_1 := Ox0_1.later hk7
  replace Ox0_2 := Ox0_2.later hk7
  replace Ox0_3 := Ox0_3.later hk7
  replace Ox0_4 := Ox0_4.later hk7
  replace X1 := X1.below hk7 X1.lt
  replace X2 := X2.below hk7 X2.lt
  have X1_0 := (X1.cell 0).trans (show _ = some (.slice Ax_0 x.rules.length cx_0) from rfl)
  have X1_1 := (X1.cell 1).trans (show _ = some (.slice Ax_1 x.pend.length cx_1) from rfl)
  have X1_2 := (X1.cell 2).trans (show _ = some (.int .i64 x.turns) from rfl)
  have X1_3 := (X1.cell 3).trans (show _ = some (.int .i64 x.secs) from rfl)
  have X1_4 := (X1.cell 4).trans (show _ = some (.int .i64 x.spk) from rfl)
  have X1_5 := (X1.cell 5).trans (show _ = some (.slice Ax_2 x.wait.length cx_2) from rfl)
  have X1_6 := (X1.cell 6).trans (show _ = some (.slice Ax_3 x.shares.length cx_3) from rfl)
  have X1_7 := (X1.cell 7).trans (show _ = some (.slice Ax_4 x.outs.length cx_4) from rfl)
  have X1_8 := (X1.cell 8).trans (show _ = some (.string x.dur) from rfl)
  have X1_9 := (X1.cell 9).trans (show _ = some (.string x.pen) from rfl)
  have X1_10 := (X1.cell 10).trans (show _ = some (.int .i64 x.cnt) from rfl)
  have X2_0 := (X2.cell 0).trans (show _ = some (.slice Ax0_0 x.rules.length x.rules.length) from rfl)
  have X2_1 := (X2.cell 1).trans (show _ = some (.slice Ax0_1 x.pend.length x.pend.length) from rfl)
  have X2_2 := (X2.cell 2).trans (show _ = some (.int .i64 x.turns) from rfl)
  have X2_3 := (X2.cell 3).trans (show _ = some (.int .i64 x.secs) from rfl)
  have X2_4 := (X2.cell 4).trans (show _ = some (.int .i64 x.spk) from rfl)
  have X2_5 := (X2.cell 5).trans (show _ = some (.slice Ax0_2 x.wait.length x.wait.length) from rfl)
  have X2_6 := (X2.cell 6).trans (show _ = some (.slice Ax0_3 x.shares.length x.shares.length) from rfl)
  have X2_7 := (X2.cell 7).trans (show _ = some (.slice Ax0_4 x.outs.length x.outs.length) from rfl)
  have X2_8 := (X2.cell 8).trans (show _ = some (.string x.dur) from rfl)
  have X2_9 := (X2.cell 9).trans (show _ = some (.string x.pen) from rfl)
  have X2_10 := (X2.cell 10).trans (show _ = some (.int .i64 x.cnt) from rfl)
  go_wp2
  go_ret
  exact ⟨rfl, bth HB (by repeat (first | exact Below.refl _ _ | refine Below.alloc ?_ (by first | exact Nat.le_refl _ | (simp <;> omega)) _ | refine Below.setCell ?_ (by first | exact Nat.le_refl _ | (simp <;> omega)) _))⟩
end Go.Proofs.YtpkagohflkcnkaaGreatDoor
/- The law of FormatConsole, its card. -/
namespace Go.Proofs.YtpkagohflkcnkaaGreatDoor
open Go.RowKit Go.G9
open Go.ChangeShapes Go.WideShapes Go.ChangeAt Go.Deep
open Go.ChangeMaps
set_option maxHeartbeats 4000000
theorem strs_of_tabW {H : Type} {enc : TypeId × Value → H} {P : Program} {w : World} {base : Nat} {sp : Nat → Bool} {held : Bool} {fuel : Nat} {t e : TypeId} {n : Nat} {cs : List Value} {ss : List (List UInt8)} {p : List MemPlace}
    (ht : P.underlying t = some (.array n e)) (he : P.underlying e = some .string) (hce : P.cellsOf e = 1) (hct : P.cellsOf t = n)
    (h : DataW.trod enc P w base sp held fuel t cs = some (.agg (ss.map fun s => .lit (.string s)), p)) : ∀ (i : Nat) (s : List UInt8), ss[i]? = some s → cs[i]? = some (.string ⟨s.toArray⟩) := by
  cases fuel with
  | zero => simp [DataW.trod] at h
  | succ fuel =>
    simp only [DataW.trod, ht, hce, hct, Nat.mul_one] at h
    split at h
    · rename_i hl
      obtain ⟨xs, hm, hx⟩ := Option.map_eq_some_iff.1 h
      have hxs : xs.map (·.1) = ss.map fun s => (DataW.lit (.string s) : DataW H) := by
        have := congrArg Prod.fst hx
        simpa using this
      have hxl : xs.length = n := by simpa using Lib.mapM_length hm
      have hzl : ss.length = n := by
        have := congrArg List.length hxs
        simp at this
        omega
      intro i s hs
      have hi : i < n := by have := (List.getElem?_eq_some_iff.1 hs).1; omega
      obtain ⟨b, hb, hf⟩ := Lib.mapM_at hm i i (by simp [hi])
      obtain ⟨z, hc, rfl, _⟩ := DataW.trod_string he hf
      have h1 : cs[i]? = some (.string z) := by
        have := congrArg (·[0]?) hc
        simpa [List.getElem?_take, List.getElem?_drop] using this
      have h2 : (xs.map (·.1))[i]? = some (DataW.lit (.string z.data.toList) : DataW H) := by simp [hb]
      rw [hxs] at h2
      simp [hs] at h2
      rw [h1, h2]
    · cases h
theorem laidWds_eq : (Rows.laid_loop_example_g00909_impl_needWords : DataW Unit) = .agg ([[], ((⟨#[109, 97, 106, 111, 114, 105, 116, 121]⟩ : ByteArray)).data.toList, ((⟨#[116, 119, 111, 45, 116, 104, 105, 114, 100, 115]⟩ : ByteArray)).data.toList, ((⟨#[97, 108, 108]⟩ : ByteArray)).data.toList].map fun s => .lit (.string s)) := rfl
theorem phn_of_laid {laid : List (String × DataW Unit)} {W : World} (hf : laid.filter (fun x => x.1 == "loop.example/g00909/impl.needWords") = [("loop.example/g00909/impl.needWords", Rows.laid_loop_example_g00909_impl_needWords)]) (h : laidMetH Tryz.prog laid W) : Phn W := by
  have h1 := h.filter (fun x => x.1 == "loop.example/g00909/impl.needWords")
  rw [hf, laidWds_eq] at h1
  obtain ⟨ps, ⟨g', t', cs, fuel, p, q, hg', ht', hvar, hd, _, _⟩, _⟩ := (show laidMet Tryz.prog _ W from h1)
  have hg : Tryz.prog.globalNamed "loop.example/g00909/impl.needWords" = some 0 := by kernel_rfl
  obtain rfl := Option.some.inj (hg.symm.trans hg')
  obtain rfl := Option.some.inj ((show (Tryz.prog.globals[0]?).map (·.type) = some 127 by kernel_rfl).symm.trans ht')
  have hs := strs_of_tabW Tryz.underlying127 Tryz.underlying9 (by kernel_rfl) (by kernel_rfl) hd
  have hc : ∀ (i : Nat) (s : List UInt8), [[], ((⟨#[109, 97, 106, 111, 114, 105, 116, 121]⟩ : ByteArray)).data.toList, ((⟨#[116, 119, 111, 45, 116, 104, 105, 114, 100, 115]⟩ : ByteArray)).data.toList, ((⟨#[97, 108, 108]⟩ : ByteArray)).data.toList][i]? = some s → W.cell? ⟨0, i, none⟩ = some (.string ⟨s.toArray⟩) := fun i s hi => by
    have h2 := World.var?_cell hg hvar i
    have h3 := hs i s hi
    rw [h2]
    simpa using h3
  refine ⟨World.block_lt_of_cell? W _ (hc 0 _ rfl), fun i s hi => ?_⟩
  match i, hi with
  | 0, hi => simp at hi; subst hi; exact hc 0 _ rfl
  | 1, hi => simp at hi; subst hi; exact hc 1 _ rfl
  | 2, hi => simp at hi; subst hi; exact hc 2 _ rfl
  | 3, hi => simp at hi; subst hi; exact hc 3 _ rfl
theorem formatConsole_reads (os : Os) {H : Type} (enc : TypeId × Value → H) : ∃ places, DataW.whole enc Tryz.prog ((laidWorld os).forCall (fun _ _ => 0) ⟨#[], #[.agg #[.slice none 0 0, .slice none 0 0, .int .i64 0, .int .i64 0, .int .i64 0, .slice none 0 0, .slice none 0 0, .slice none 0 0, .string ⟨#[]⟩, .string ⟨#[]⟩, .int .i64 0]], []⟩).memory Tryz.f4.params.toList Rows.fnExactFormatConsoleSpec.vars false (#[.agg #[.slice none 0 0, .slice none 0 0, .int .i64 0, .int .i64 0, .int .i64 0, .slice none 0 0, .slice none 0 0, .slice none 0 0, .string ⟨#[]⟩, .string ⟨#[]⟩, .int .i64 0]] : Array Value).toList 8 = some ([.agg [.agg [.nil, .nil, .agg [.lit (.int .i64 0), .lit (.int .i64 0), .lit (.int .i64 0), .nil, .nil], .nil], .agg [.lit (.string []), .lit (.string []), .lit (.int .i64 0)]]], [Rows.laid_loop_example_g00909_impl_needWords], places) :=
  reads_of (by kernel_rfl)
theorem formatConsole_met (os : Os) : laidMet Tryz.prog Rows.fnExactFormatConsoleRow.laid ((laidWorld os).forCall (fun _ _ => 0) ⟨#[], #[.agg #[.slice none 0 0, .slice none 0 0, .int .i64 0, .int .i64 0, .int .i64 0, .slice none 0 0, .slice none 0 0, .slice none 0 0, .string ⟨#[]⟩, .string ⟨#[]⟩, .int .i64 0]], []⟩).memory :=
  laidMet_of_run' 8 (by kernel_rfl) (by kernel_rfl)
set_option maxRecDepth 100000 in
theorem formatConsole_lifted (os : Os) (started : os.Started) (H : Type) (enc : TypeId × Value → H) (F : Stop.Interp) :
    ReturnsInHanded {} Tryz.checked os 4 .any ((OpenSpec.ofChange Rows.fnExactFormatConsoleSpec).preRow enc Tryz.prog Tryz.f4 Rows.fnExactFormatConsoleRow.domain false Rows.fnExactFormatConsoleRow.laid) (((OpenSpec.ofChange Rows.fnExactFormatConsoleSpec).at F).post enc Tryz.prog Tryz.f4 false true false false) := by
  obtain ⟨places, hx⟩ := formatConsole_reads os enc
  refine door_lift (C := Tryz.checked) (rt := 4) prog_own started (by kernel_rfl) Tryz.func4
    (witness_row_at (enc := enc) (C := Tryz.checked) false (laidWorld os) #[.agg #[.slice none 0 0, .slice none 0 0, .int .i64 0, .int .i64 0, .int .i64 0, .slice none 0 0, .slice none 0 0, .slice none 0 0, .string ⟨#[]⟩, .string ⟨#[]⟩, .int .i64 0]] rfl (by kernel_rfl) (by kernel_rfl) (by kernel_rfl) (OpenSpec.preRow_of_cond 8 hx (by kernel_rfl) (fun k hk => by cases hk) (by kernel_rfl) (formatConsole_met os)))
    prog_laid (by rw [Tryz.params4]; intro t ht; simp at ht; rcases ht with rfl; all_goals exact ⟨by kernel_rfl, of_decide_eq_true (by kernel_rfl)⟩) rfl Tryz.underlying4 (by kernel_rfl)
    (by rw [Tryz.params4]; intro l g hl hg; match l, g, hl, hg with | [d0], [g0], _, _ => rfl) ?_
  intro W base args ds p hL hsh hval hA
  rw [Tryz.params4] at hA hval
  obtain ⟨v0, d0, rfl, rfl, h0⟩ := trodAll_one hA
  obtain ⟨cs_0, rfl, _⟩ := okWide_struct Tryz.underlying34 (hval 0 34 v0 rfl rfl)
  obtain ⟨fuel_0, f_0⟩ := h0
  obtain ⟨x, A0, A1, A2, A3, A4, c0, c1, c2, c3, c4, e_0, s0, s1, l0, l1, l2, l3, l4, R0, R1, R2, R3, R4⟩ := rd_Con f_0
  rw [agg_of_list (cs := cs_0) e_0]
  exact law_formatConsole x s0 s1 A0 A1 A2 A3 A4 c0 c1 c2 c3 c4 l0 l1 l2 l3 l4 W R0 R1 R2 R3 R4 ⟨tab_of_laid rfl hL, phn_of_laid rfl hL⟩
theorem formatConsole_said : Rows.FnExactFormatConsoleSaid :=
  OpenClaim.holds_of_cond 4 Tryz.f4 rfl rfl rfl rfl rfl rfl rfl ⟨rfl, rfl, rfl, rfl, rfl⟩ rfl rfl rfl rfl rfl (by kernel_rfl) Tryz.func4 (by kernel_rfl)
    (of_decide_eq_true (by kernel_rfl)) (by unfold Func.isWrapper; first | (rw [if_pos (by decide +kernel)]; kernel_rfl) | (rw [if_neg (by decide +kernel)]; exact ⟨rfl, rfl⟩))
    (fun os started H enc _ F => by rw [OpenClaim.pre_eq_preRow]; exact formatConsole_lifted os started H enc F)
theorem formatConsole_plain (f : FuncId) (fn : Func) (hf : Tryz.pinned.checked.prog.funcNamed Rows.fnExactFormatConsoleRow.func = some f) (hfn : Tryz.pinned.checked.prog.funcs[f]? = some fn) :
    Rows.fnExactFormatConsoleCard.stood.looks = Tryz.pinned.checked.prog.looks [] ∧ ∀ (j : Nat) t, fn.params[j]? = some t → Tryz.pinned.checked.prog.wantsStandIn t = false := by
  obtain rfl : f = 4 := Option.some.inj ((show Tryz.prog.funcNamed Rows.fnExactFormatConsoleRow.func = some 4 by kernel_rfl).symm.trans hf) |>.symm
  obtain rfl : fn = Tryz.f4 := (Option.some.inj (Tryz.func4.symm.trans hfn)).symm
  refine ⟨by kernel_rfl, fun j t ht => ?_⟩
  have hall : Tryz.f4.params.toList.all (fun t => !Tryz.prog.wantsStandIn t) = true := by kernel_rfl
  have hm := List.all_eq_true.1 hall t (Array.mem_toList_iff.2 (Array.mem_of_getElem? ht))
  exact (Bool.not_eq_true' _).mp hm
theorem formatConsole_holds : Rows.FnExactFormatConsoleCardSaid :=
  Claim7.holds_tied_plain_at .later [] _ _ _ _ formatConsole_said (fun _ h => by cases h) (by kernel_rfl) (fun _ h => by cases h) fnExactFormatConsole_row_tie rfl ⟨rfl, rfl⟩ (by kernel_rfl) rfl formatConsole_plain (by kernel_rfl)
#print axioms formatConsole_holds
end Go.Proofs.YtpkagohflkcnkaaGreatDoor
