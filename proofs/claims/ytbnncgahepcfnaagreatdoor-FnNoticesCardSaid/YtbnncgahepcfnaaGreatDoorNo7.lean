/- Lists of numbers: copies, comparisons, marks. -/
import Derived.Test.YtbnncgahepcfnaaGreatDoorNo6
import Derived.Test.YtbnncgahepcfnaaGreatDoorNo3
import Derived.Test.YtbnncgahepcfnaaGreatDoorNo5
import Derived.Test.YtbnncgahepcfnaaGreatDoorNo0
import Derived.Maps.AppendAt
namespace Go.Proofs.YtbnncgahepcfnaaGreatDoor
open Go.RowKit Go.G9
theorem info_int : (Tryz.prog.info? 3).map (fun i => (i.zero, i.size, i.bytes)) = some (some (.int .i64 0), 1, 8) := by kernel_rfl
theorem intC_len (y : Int) : (intC y).length = 1 := rfl
theorem intC_one (y : Int) (u : Value) (h : u ∈ intC y) : u.oneCell' = true := by simp [intC] at h; subst h; rfl
theorem intC_flat (xs : List Int) : xs.flatMap intC = xs.map (Value.int .i64) := by induction xs with
  | nil => rfl
  | cons x xs ih => simp [intC, ih]
end Go.Proofs.YtbnncgahepcfnaaGreatDoor
/- Notices: validity of a notice and of a list of notices, copied, counted and compared. -/
namespace Go.Proofs.YtbnncgahepcfnaaGreatDoor
open Go.RowKit Go.G9
structure Ntc where
  id : Int
  topic : ByteArray
  given : Int
  days : Int
  ok : topic.size ≤ maxLen
def Ntc.cells (n : Ntc) : List Value := [.int .i64 n.id, .string n.topic, .int .i64 n.given, .int .i64 n.days]
def noticeB (n : Ntc) : Bool := inB n.id 1 99 && (wordB n.topic && (inB n.given 0 3650 && inB n.days 0 60))
def ntcStep (xs : List Ntc) : Nat → Bool
  | 0 => match xs[0]? with | some x => noticeB x | none => true
  | j + 1 => match xs[j]?, xs[j+1]? with | some y, some x => noticeB x && decide (y.id < x.id) | _, _ => true
def noticesB (xs : List Ntc) : Bool := allTo (ntcStep xs) xs.length && decide (xs.length ≤ 10)

theorem isNotice_is (id g d : Int) (s : ByteArray) (hs : s.size ≤ maxLen) (v : Bool) (hv : noticeB ⟨id, s, g, d, hs⟩ = v) (w : World) :
  Calls Tryz.prog 60 #[.agg #[.int .i64 id, .string s, .int .i64 g, .int .i64 d]] w fun e w' => e = .returned (.bool v) ∧ Below w.heap.size w w' := by
  subst hv
  go_enter Tryz.func60, Tryz.ntmps60
  go_wp2_with (first | (go_at_call 98; refine (inside_is _ _ _ _ rfl _).mono ?_; rintro e w' ⟨rfl, rfl⟩) | (go_at_call 72; refine (isDay_is _ _ rfl _).mono ?_; rintro e w' ⟨rfl, rfl⟩) | (go_at_call 83; refine (isWord_is _ hs _ rfl _).mono ?_; rintro e w' ⟨rfl, rfl⟩))
  all_goals go_ret
  all_goals exact ⟨by simp [noticeB, *], (Below.refl _ _).alloc (Nat.le_refl _) _⟩
theorem l24One_is (id g d : Int) (s : ByteArray) (hs : s.size ≤ maxLen) (v : Bool) (hv : noticeB ⟨id, s, g, d, hs⟩ = v) (w : World) :
  Calls Tryz.prog 62 #[.agg #[.int .i64 id, .string s, .int .i64 g, .int .i64 d]] w fun e w' => e = .returned (.bool v) ∧ Below w.heap.size w w' := by
  subst hv
  go_enter Tryz.func62, Tryz.ntmps62
  go_wp2_with (first | (go_at_call 100; refine (l1In_is _ _ _ _ rfl _).mono ?_; rintro e w' ⟨rfl, rfl⟩) | (go_at_call 71; refine (l24Day_is _ _ rfl _).mono ?_; rintro e w' ⟨rfl, rfl⟩) | (go_at_call 89; refine (l2Word_is _ hs _ rfl _).mono ?_; rintro e w' ⟨rfl, rfl⟩))
  all_goals go_ret
  all_goals exact ⟨by simp [noticeB, *], (Below.refl _ _).alloc (Nat.le_refl _) _⟩
end Go.Proofs.YtbnncgahepcfnaaGreatDoor
/- The text of a notice. -/
namespace Go.Proofs.YtbnncgahepcfnaaGreatDoor
open Go.RowKit Go.G9
def Ntc.head (n : Ntc) : ByteArray := (⟨#[110, 111, 116, 105, 99, 101, 32]⟩ : ByteArray) ++ numS n.id ++ (⟨#[58, 32]⟩ : ByteArray) ++ n.topic ++ (⟨#[32, 103, 105, 118, 101, 110, 32, 111, 110, 32, 100, 97, 121, 32]⟩ : ByteArray) ++ numS n.given ++ (⟨#[44, 32]⟩ : ByteArray) ++ numS n.days
def Ntc.txt (n : Ntc) : ByteArray := if n.days = 1 then n.head ++ (⟨#[32, 100, 97, 121]⟩ : ByteArray) else n.head ++ (⟨#[32, 100, 97, 121, 115]⟩ : ByteArray)
theorem noticeB_bd {n : Ntc} (h : noticeB n = true) : 1 ≤ n.id ∧ n.id ≤ 99 ∧ n.topic.size ≤ 10 ∧ 0 ≤ n.given ∧ n.given ≤ 3650 ∧ 0 ≤ n.days ∧ n.days ≤ 60 := by
  simp [noticeB, wordB, inB] at h
  omega
set_option maxHeartbeats 1000000 in
theorem noticeText_is (id g d : Int) (s : ByteArray) (hs : s.size ≤ maxLen) (hv : noticeB ⟨id, s, g, d, hs⟩ = true) (w : World) (hT : Tab w) :
  Calls Tryz.prog 61 #[.agg #[.int .i64 id, .string s, .int .i64 g, .int .i64 d]] w fun e w' => e = .returned (.string (Ntc.txt ⟨id, s, g, d, hs⟩)) ∧ Below w.heap.size w w' := by
  obtain ⟨h1, h2, h3, h4, h5, h6, h7⟩ := noticeB_bd hv
  simp only at h1 h2 h3 h4 h5 h6 h7
  clear hv
  have HT := Lib.hid (hT.below (bl1 w (.cells #[.int .i64 id, .string s, .int .i64 g, .int .i64 d] 42)))
  have n1 := numS_size id (by omega)
  have n2 := numS_size g (by omega)
  have n3 := numS_size d (by omega)
  have b0 := boxed w #[.int .i64 id, .string s, .int .i64 g, .int .i64 d] 42 0 _ rfl
  have b1 := boxed w #[.int .i64 id, .string s, .int .i64 g, .int .i64 d] 42 1 _ rfl
  have b2 := boxed w #[.int .i64 id, .string s, .int .i64 g, .int .i64 d] 42 2 _ rfl
  have b3 := boxed w #[.int .i64 id, .string s, .int .i64 g, .int .i64 d] 42 3 _ rfl
  by_cases hd : d = 1
  · have hd1 : (d == 1) = true := beq_iff_eq.2 hd
    have HD := Lib.hid hd; clear hd
    go_enter Tryz.func61, Tryz.ntmps61
    go_wp2
    refine wp_region_kin (by kernel_rfl) (by kernel_rfl) ?_
    repeat (go_big_quiet_step ((first | (go_at_call 99; exact Kin.call _ (by first | exact Nat.le_refl _ | omega) (itoa_is _ (by omega) (by omega) _ (HT.out.below (Kin.below _)))))))
    refine wpQuiet_nil ?_
    intro K
    have c3 := b3 K
    go_wp2
    go_ret
    exact ⟨by rw [Ntc.txt, if_pos HD.out]; rfl, bth (bl1 _ _) K.below⟩
  · have hd1 : (d == 1) = false := beq_eq_false_iff_ne.2 hd
    have HD := Lib.hid hd; clear hd
    go_enter Tryz.func61, Tryz.ntmps61
    go_wp2
    refine wp_region_kin (by kernel_rfl) (by kernel_rfl) ?_
    repeat (go_big_quiet_step ((first | (go_at_call 99; exact Kin.call _ (by first | exact Nat.le_refl _ | omega) (itoa_is _ (by omega) (by omega) _ (HT.out.below (Kin.below _)))))))
    refine wpQuiet_nil ?_
    intro K
    have c3 := b3 K
    go_wp2
    go_ret
    refine ⟨?_, bth (bl1 _ _) K.below⟩
    show Ending.returned (Value.string (Ntc.head ⟨id, s, g, d, hs⟩ ++ (⟨#[32, 100, 97, 121]⟩ : ByteArray) ++ (⟨#[115]⟩ : ByteArray))) = _
    rw [Ntc.txt, if_neg HD.out, ByteArray.append_assoc]
    rfl
set_option maxHeartbeats 1000000 in
theorem l24Text_is (id g d : Int) (s : ByteArray) (hs : s.size ≤ maxLen) (hv : noticeB ⟨id, s, g, d, hs⟩ = true) (w : World) :
  Calls Tryz.prog 63 #[.agg #[.int .i64 id, .string s, .int .i64 g, .int .i64 d]] w fun e w' => e = .returned (.string (Ntc.txt ⟨id, s, g, d, hs⟩)) ∧ Below w.heap.size w w' := by
  obtain ⟨h1, h2, h3, h4, h5, h6, h7⟩ := noticeB_bd hv
  simp only at h1 h2 h3 h4 h5 h6 h7
  clear hv
  have n1 := numS_size id (by omega)
  have n2 := numS_size g (by omega)
  have n3 := numS_size d (by omega)
  have b0 := boxed w #[.int .i64 id, .string s, .int .i64 g, .int .i64 d] 42 0 _ rfl
  have b1 := boxed w #[.int .i64 id, .string s, .int .i64 g, .int .i64 d] 42 1 _ rfl
  have b2 := boxed w #[.int .i64 id, .string s, .int .i64 g, .int .i64 d] 42 2 _ rfl
  have b3 := boxed w #[.int .i64 id, .string s, .int .i64 g, .int .i64 d] 42 3 _ rfl
  by_cases hd : d = 1
  · have hd1 : (d == 1) = true := beq_iff_eq.2 hd
    have HD := Lib.hid hd; clear hd
    go_enter Tryz.func63, Tryz.ntmps63
    go_wp2
    refine wp_region_kin (by kernel_rfl) (by kernel_rfl) ?_
    repeat (go_big_quiet_step ((first | (go_at_call 92; exact Kin.call _ (by first | exact Nat.le_refl _ | omega) (l1Num_is _ (by omega) (by omega) _)))))
    refine wpQuiet_nil ?_
    intro K
    have c3 := b3 K
    go_wp2
    go_ret
    exact ⟨by rw [Ntc.txt, if_pos HD.out]; rfl, bth (bl1 _ _) K.below⟩
  · have hd1 : (d == 1) = false := beq_eq_false_iff_ne.2 hd
    have HD := Lib.hid hd; clear hd
    go_enter Tryz.func63, Tryz.ntmps63
    go_wp2
    refine wp_region_kin (by kernel_rfl) (by kernel_rfl) ?_
    repeat (go_big_quiet_step ((first | (go_at_call 92; exact Kin.call _ (by first | exact Nat.le_refl _ | omega) (l1Num_is _ (by omega) (by omega) _)))))
    refine wpQuiet_nil ?_
    intro K
    have c3 := b3 K
    go_wp2
    go_ret
    exact ⟨by rw [Ntc.txt, if_neg HD.out]; rfl, bth (bl1 _ _) K.below⟩
def ntOut (n : Ntc) : Value := if noticeB n then .tuple #[.string n.txt, .bool true] else .tuple #[.string ⟨#[]⟩, .bool false]
theorem ntOut_form (n : Ntc) : ∃ s b, ntOut n = .tuple #[.string s, .bool b] := by unfold ntOut; split <;> exact ⟨_, _, rfl⟩
theorem iNoticeText_is (n : Ntc) (v : Value) (hv : ntOut n = v) (w : World) (hT : Tab w) :
  Calls Tryz.prog 21 #[.agg #[.int .i64 n.id, .string n.topic, .int .i64 n.given, .int .i64 n.days]] w fun e w' => e = .returned v ∧ Below w.heap.size w w' := by
  subst hv
  obtain ⟨id, s, g, d, hs⟩ := n
  cases h : noticeB ⟨id, s, g, d, hs⟩
  · go_enter Tryz.func21, Tryz.ntmps21
    go_wp2_with fail
    refine (isNotice_is id g d s hs _ h _).mono ?_
    rintro e w1 ⟨rfl, hb1⟩
    have hq1 : Below w.heap.size w w1 := bth (by repeat (first | exact Below.refl _ _ | refine Below.alloc ?_ (by first | exact Nat.le_refl _ | (simp <;> omega)) _ | refine Below.setCell ?_ (by first | exact Nat.le_refl _ | (simp <;> omega)) _)) hb1
    have HB : Below w.heap.size w w1 := hq1
    go_wp2
    go_ret2
    exact ⟨by simp [ntOut, h], (bth HB (by repeat (first | exact Below.refl _ _ | refine Below.alloc ?_ (by first | exact Nat.le_refl _ | (simp <;> omega)) _ | refine Below.setCell ?_ (by first | exact Nat.le_refl _ | (simp <;> omega)) _)))⟩
  · go_enter Tryz.func21, Tryz.ntmps21
    go_wp2_with fail
    refine (isNotice_is id g d s hs _ h _).mono ?_
    rintro e w1 ⟨rfl, hb1⟩
    have hq1 : Below w.heap.size w w1 := bth (by repeat (first | exact Below.refl _ _ | refine Below.alloc ?_ (by first | exact Nat.le_refl _ | (simp <;> omega)) _ | refine Below.setCell ?_ (by first | exact Nat.le_refl _ | (simp <;> omega)) _)) hb1
    have HB : Below w.heap.size w w1 := hq1
    have hA : Blk w1 (w.heap.size) 42 #[.int .i64 id, .string s, .int .i64 g, .int .i64 d] := Blk.below (by repeat (first | exact Blk.new _ _ _ | exact Blk.new2 _ _ _ _ | exact Blk.new3 _ _ _ _ _ | exact Blk.new4 _ _ _ _ _ _ | refine Blk.alloc ?_ _)) hb1 (by simp <;> omega)
    have a0 := (hA.cell 0).trans (show _ = some (.int .i64 id) from rfl)
    have a1 := (hA.cell 1).trans (show _ = some (.string s) from rfl)
    have a2 := (hA.cell 2).trans (show _ = some (.int .i64 g) from rfl)
    have a3 := (hA.cell 3).trans (show _ = some (.int .i64 d) from rfl)
    go_wp2_with fail
    refine (noticeText_is id g d s hs h _ (hT.below HB)).mono ?_
    rintro e w2 ⟨rfl, hb2⟩
    have hq2 : Below w1.heap.size w1 w2 := bth (by repeat (first | exact Below.refl _ _ | refine Below.alloc ?_ (by first | exact Nat.le_refl _ | (simp <;> omega)) _ | refine Below.setCell ?_ (by first | exact Nat.le_refl _ | (simp <;> omega)) _)) hb2
    replace HB := bth HB hq2
    replace hA := hA.below hq2 hA.lt
    replace a0 := (hA.cell 0).trans (show _ = some (.int .i64 id) from rfl)
    replace a1 := (hA.cell 1).trans (show _ = some (.string s) from rfl)
    replace a2 := (hA.cell 2).trans (show _ = some (.int .i64 g) from rfl)
    replace a3 := (hA.cell 3).trans (show _ = some (.int .i64 d) from rfl)
    go_wp2
    go_ret2
    exact ⟨by simp [ntOut, h], (bth HB (by repeat (first | exact Below.refl _ _ | refine Below.alloc ?_ (by first | exact Nat.le_refl _ | (simp <;> omega)) _ | refine Below.setCell ?_ (by first | exact Nat.le_refl _ | (simp <;> omega)) _)))⟩
theorem sNoticeText_is (n : Ntc) (v : Value) (hv : ntOut n = v) (w : World) :
  Calls Tryz.prog 22 #[.agg #[.int .i64 n.id, .string n.topic, .int .i64 n.given, .int .i64 n.days]] w fun e w' => e = .returned v ∧ Below w.heap.size w w' := by
  subst hv
  obtain ⟨id, s, g, d, hs⟩ := n
  cases h : noticeB ⟨id, s, g, d, hs⟩
  · go_enter Tryz.func22, Tryz.ntmps22
    go_wp2_with fail
    refine (l24One_is id g d s hs _ h _).mono ?_
    rintro e w1 ⟨rfl, hb1⟩
    have hq1 : Below w.heap.size w w1 := bth (by repeat (first | exact Below.refl _ _ | refine Below.alloc ?_ (by first | exact Nat.le_refl _ | (simp <;> omega)) _ | refine Below.setCell ?_ (by first | exact Nat.le_refl _ | (simp <;> omega)) _)) hb1
    have HB : Below w.heap.size w w1 := hq1
    go_wp2
    go_ret2
    exact ⟨by simp [ntOut, h], (bth HB (by repeat (first | exact Below.refl _ _ | refine Below.alloc ?_ (by first | exact Nat.le_refl _ | (simp <;> omega)) _ | refine Below.setCell ?_ (by first | exact Nat.le_refl _ | (simp <;> omega)) _)))⟩
  · go_enter Tryz.func22, Tryz.ntmps22
    go_wp2_with fail
    refine (l24One_is id g d s hs _ h _).mono ?_
    rintro e w1 ⟨rfl, hb1⟩
    have hq1 : Below w.heap.size w w1 := bth (by repeat (first | exact Below.refl _ _ | refine Below.alloc ?_ (by first | exact Nat.le_refl _ | (simp <;> omega)) _ | refine Below.setCell ?_ (by first | exact Nat.le_refl _ | (simp <;> omega)) _)) hb1
    have HB : Below w.heap.size w w1 := hq1
    have hA : Blk w1 (w.heap.size) 42 #[.int .i64 id, .string s, .int .i64 g, .int .i64 d] := Blk.below (by repeat (first | exact Blk.new _ _ _ | exact Blk.new2 _ _ _ _ | exact Blk.new3 _ _ _ _ _ | exact Blk.new4 _ _ _ _ _ _ | refine Blk.alloc ?_ _)) hb1 (by simp <;> omega)
    have a0 := (hA.cell 0).trans (show _ = some (.int .i64 id) from rfl)
    have a1 := (hA.cell 1).trans (show _ = some (.string s) from rfl)
    have a2 := (hA.cell 2).trans (show _ = some (.int .i64 g) from rfl)
    have a3 := (hA.cell 3).trans (show _ = some (.int .i64 d) from rfl)
    go_wp2_with fail
    refine (l24Text_is id g d s hs h _).mono ?_
    rintro e w2 ⟨rfl, hb2⟩
    have hq2 : Below w1.heap.size w1 w2 := bth (by repeat (first | exact Below.refl _ _ | refine Below.alloc ?_ (by first | exact Nat.le_refl _ | (simp <;> omega)) _ | refine Below.setCell ?_ (by first | exact Nat.le_refl _ | (simp <;> omega)) _)) hb2
    replace HB := bth HB hq2
    replace hA := hA.below hq2 hA.lt
    replace a0 := (hA.cell 0).trans (show _ = some (.int .i64 id) from rfl)
    replace a1 := (hA.cell 1).trans (show _ = some (.string s) from rfl)
    replace a2 := (hA.cell 2).trans (show _ = some (.int .i64 g) from rfl)
    replace a3 := (hA.cell 3).trans (show _ = some (.int .i64 d) from rfl)
    go_wp2
    go_ret2
    exact ⟨by simp [ntOut, h], (bth HB (by repeat (first | exact Below.refl _ _ | refine Below.alloc ?_ (by first | exact Nat.le_refl _ | (simp <;> omega)) _ | refine Below.setCell ?_ (by first | exact Nat.le_refl _ | (simp <;> omega)) _)))⟩
end Go.Proofs.YtbnncgahepcfnaaGreatDoor
/- Marks: what a slice holds behind the marks, and that it is held. -/
namespace Go.G9
open Go.RowKit
/-- The first marks of n elements of s fields each. -/
def mks (m s : Int) (n : Nat) : List Int := (List.range n).map fun (i : Nat) => m + s * (i : Int)
theorem setMany_one (cs : Array Value) (i : Nat) (a : Value) (bs : List Value) : setMany (setMany cs i [a]) (i + 1) bs = setMany cs i (a :: bs) := rfl
theorem mks_len (m s : Int) (n : Nat) : (mks m s n).length = n := by simp [mks]
theorem mks_get {m s : Int} {n k : Nat} (h : k < n) : (mks m s n)[k]? = some (m + s * k) := by simp [mks, h]
section
variable {T U : Type} {B : Nat} {e : TypeId} {sz : Nat} {f : T → List Value} {h : U → List Value} {w w' : World} {v : Value} {xs : List T}
theorem OwnV.block (hO : OwnV B e sz f w v xs) (hn : 0 < xs.length) : ∃ g cap cur, v = .slice (some ⟨g, 0, none⟩) xs.length cap ∧ B ≤ g ∧ Blk w g e cur ∧ xs.length ≤ cap ∧ cap ≤ maxLen ∧ cur.size = cap * sz := by
  rcases hO.2 with ⟨_, h0⟩ | ⟨g, cap, cur, hv, hB, hh, hnc, hcm, hcs, _⟩
  · omega
  · exact ⟨g, cap, cur, hv, hB, hh, hnc, hcm, hcs⟩
theorem OwnV.empty {A : Option Addr} {n c : Nat} {m s : Int} (hO : OwnV B e sz f w (.slice A n c) ([] : List T)) {p : Int → List Value} : OwnV B e sz p w (.slice A 0 c) (mks m s 0) := by
  obtain ⟨hl, hO⟩ := hO
  refine ⟨by simp [mks], ?_⟩
  rcases hO with ⟨hv, h0⟩ | ⟨g, cap, cur, hv, hB, hh, hnc, hcm, hcs, htake⟩
  · injection hv with h1 h2 h3
    subst h1 h2 h3
    exact .inl ⟨rfl, by simp [mks]⟩
  · injection hv with h1 h2 h3
    subst h1 h3
    simp at h2
    exact .inr ⟨g, c, cur, by simp [mks], hB, hh, by simp [mks], hcm, hcs, by simp [mks]⟩
theorem OwnV.ofBlk {g cap : Nat} {cs : Array Value} (hb : Blk w g e cs) (hB : B ≤ g) (hc : xs.length ≤ cap) (hm : cap ≤ maxLen) (hsz : cs.size = cap * sz) (hF : ∀ i x, xs[i]? = some x → ∀ j u, (f x)[j]? = some u → cs[i * sz + j]? = some u)
    (hf : ∀ y, (f y).length = sz := by intro y; rfl) : OwnV B e sz f w (.slice (some ⟨g, 0, none⟩) xs.length cap) xs := by
  refine ⟨flat_len hf xs, .inr ⟨g, cap, cs, rfl, hB, hb, hc, hm, hsz, ?_⟩⟩
  have hle : xs.length * sz ≤ cap * sz := Nat.mul_le_mul_right sz hc
  apply List.ext_getElem?
  intro k
  rw [List.getElem?_take]
  by_cases hk : k < (xs.flatMap f).length
  · obtain ⟨i, j, x, hx, hj, rfl⟩ := flat_inv hf xs k _ (List.getElem?_eq_getElem hk)
    rw [flat_len hf] at hk
    rw [if_pos hk, List.getElem?_eq_getElem (l := xs.flatMap f) (by rw [flat_len hf]; exact hk), ← hF i x hx j _ hj]; simp
  · rw [flat_len hf] at hk
    rw [if_neg hk, List.getElem?_eq_none (by rw [flat_len hf]; omega)]
end
end Go.G9
namespace Go.Proofs.YtbnncgahepcfnaaGreatDoor
open Go.RowKit Go.G9
end Go.Proofs.YtbnncgahepcfnaaGreatDoor
/- Marks in slices of numbers. -/
namespace Go.Proofs.YtbnncgahepcfnaaGreatDoor
open Go.RowKit Go.G9
end Go.Proofs.YtbnncgahepcfnaaGreatDoor
/- Slices of the call's own that lie between two numbers of blocks; worlds that have turned in some of them. -/
namespace Go.G9
open Go.RowKit
def Within (vs : List Value) (a b : Nat) : Prop := ∀ v ∈ vs, ∀ k, v.ownBlock = some k → a ≤ k ∧ k < b
/-- As w was, but for the blocks of vs. -/
structure GrownL (w w' : World) (vs : List Value) : Prop where
  os : w'.os = w.os
  tape : w'.tape = w.tape
  output : w'.output = w.output
  size : w.heap.size ≤ w'.heap.size
  block : ∀ i, i < w.heap.size → (∀ v ∈ vs, v.ownBlock ≠ some i) → w'.heap[i]? = w.heap[i]?
theorem grownL_one {w w' : World} {v : Value} (h : w.grownBy w' v.ownBlock) : GrownL w w' [v] :=
  ⟨h.os, h.tape, h.output, h.size, fun i hi hv => h.block i hi (fun e => hv v (List.mem_singleton.2 rfl) e.symm)⟩
theorem GrownL.trans {w w1 w2 : World} {vs us : List Value} (h : GrownL w w1 vs) (k : GrownL w1 w2 us) : GrownL w w2 (vs ++ us) :=
  ⟨k.os.trans h.os, k.tape.trans h.tape, k.output.trans h.output, Nat.le_trans h.size k.size, fun i hi hv => (k.block i (Nat.lt_of_lt_of_le hi h.size) (fun v hm => hv v (List.mem_append_right _ hm))).trans (h.block i hi (fun v hm => hv v (List.mem_append_left _ hm)))⟩
theorem GrownL.of_below {w w' : World} {vs : List Value} (h : Below w.heap.size w w') : GrownL w w' vs := ⟨h.os, h.tape, h.output, h.size, fun i hi _ => h.block i hi⟩
theorem GrownL.below {w w' : World} {us : List Value} {B c d : Nat} (h : GrownL w w' us) (hu : Within us c d) (hc : B ≤ c) (hB : B ≤ w.heap.size) : Below B w w' :=
  ⟨h.os, h.tape, h.output, h.size, fun i hi => h.block i (Nat.lt_of_lt_of_le hi hB) (fun v hv e => by have := (hu v hv i e).1; omega)⟩
theorem OwnV.keptL {T : Type} {B : Nat} {e : TypeId} {sz : Nat} {f : T → List Value} {w w' : World} {v : Value} {xs : List T} {us vs : List Value} {a b c d : Nat} (h : OwnV B e sz f w v xs) (hg : GrownL w w' us) (hv : Within vs a b) (hu : Within us c d) (hm : v ∈ vs) (hlt : b ≤ c ∨ d ≤ a) :
    OwnV B e sz f w' v xs := by
  have hl := h.lt
  refine ⟨h.1, ?_⟩
  rcases h.2 with hn | ⟨g, cap, cur, rfl, hB, hh, r⟩
  · exact .inl hn
  · have hg1 := hv _ hm g rfl
    exact .inr ⟨g, cap, cur, rfl, hB, by rw [hg.block g (hl g rfl).2 (fun u hu' e => by have := hu u hu' g e; omega)]; exact hh, r⟩
theorem OwnV.keptN {T : Type} {B : Nat} {e : TypeId} {sz : Nat} {f : T → List Value} {w w' : World} {v : Value} {xs : List T} {us : List Value} (h : OwnV B e sz f w v xs) (hg : GrownL w w' us) (hne : ∀ k, v.ownBlock = some k → ∀ u ∈ us, u.ownBlock ≠ some k) : OwnV B e sz f w' v xs := by
  have hl := h.lt
  refine ⟨h.1, ?_⟩
  rcases h.2 with hn | ⟨g, cap, cur, rfl, hB, hh, r⟩
  · exact .inl hn
  · exact .inr ⟨g, cap, cur, rfl, hB, by rw [hg.block g (hl g rfl).2 (hne g rfl)]; exact hh, r⟩
theorem Blk.keptL {w w' : World} {g : Nat} {t : TypeId} {cs : Array Value} {us : List Value} {c d : Nat} (h : Blk w g t cs) (hg : GrownL w w' us) (hu : Within us c d) (hlt : g < c ∨ d ≤ g) : Blk w' g t cs :=
  (hg.block g h.lt (fun u hu' e => by have := hu u hu' g e; omega)).trans h
/-- No two of these values own one block. -/
def Apart (vs : List Value) : Prop := vs.Pairwise fun u v => ∀ k, u.ownBlock = some k → some k ≠ v.ownBlock
theorem Apart.at {vs : List Value} (h : Apart vs) {i j : Nat} (hij : i < j) {u v : Value} (hu : vs[i]? = some u) (hv : vs[j]? = some v) : ∀ k, u.ownBlock = some k → some k ≠ v.ownBlock := by
  obtain ⟨hi, rfl⟩ := List.getElem?_eq_some_iff.1 hu
  obtain ⟨hj, rfl⟩ := List.getElem?_eq_some_iff.1 hv
  exact (List.pairwise_iff_getElem.1 h) i j hi hj hij
theorem apart2 {u v : Value} (h : ∀ k, u.ownBlock = some k → some k ≠ v.ownBlock) : Apart [u, v] :=
  .cons (fun x hx => by simp only [List.mem_singleton] at hx; subst hx; exact h) (.cons (fun _ h => by cases h) .nil)
theorem apart_of {vs : List Value} (h : ∀ (i j : Nat) (u v : Value), i < j → vs[i]? = some u → vs[j]? = some v → ∀ k, u.ownBlock = some k → some k ≠ v.ownBlock) : Apart vs :=
  List.pairwise_iff_getElem.2 fun i j hi hj hij => h i j _ _ hij (List.getElem?_eq_getElem hi) (List.getElem?_eq_getElem hj)
end Go.G9
/- append of one element, and where the new slice lies; a slice just built. -/
namespace Go.G9
open Go.RowKit
theorem wpList_app1 {P : Program} {w : World} {ops : Array Oper} {rest : List Oper} {o : Oper} {a : Act} {Q : Exit → Act → World → Prop} (hgd : o.guard = none) (s x : Operand) (t : TypeId)
    (ho : o.op = .call { callee := .builtin .append, args := #[s, x], argTypes := #[t, t] })
    (B : Nat) (e : TypeId) (i : TypeInfo) (z : Value) (sz bytes : Nat) (ht : P.underlying t = some (.slice e)) (hi : P.info? e = some i) (hz : i.zero = some z)
    (hsize : i.size = sz) (hby : i.bytes = bytes) (hzs : z.cells.size = sz) (hsz : 0 < sz) {T : Type} (f : T → List Value) (hf : ∀ y, (f y).length = sz) (hone : ∀ y u, u ∈ f y → u.oneCell' = true)
    (v : Value) (xs : List T) (hs : a.eval s = v) (hown : OwnV B e sz f w v xs) (ad : Addr) (c2 : Nat) (y : T) (hx : a.eval x = .slice (some ad) 1 c2) (hR : Rds sz f w (some ad) [y])
    (h63 : xs.length + 1 ≤ maxLen) (hbytes : (xs.length + 1) * bytes ≤ 140737488355328) (hbase : B ≤ w.heap.size)
    (h : ∀ v' w', OwnV B e sz f w' v' (xs ++ [y]) → w.grownBy w' v.ownBlock → (v'.ownBlock = v.ownBlock ∨ v'.ownBlock = some w.heap.size) → wpList P ops Q rest (a.put o.dst v') w') : wpList P ops Q (o :: rest) a w := by
  refine wpList_append_own_at w hgd s x t ho B e i z sz bytes ht hi hz hsize hby hzs hsz v xs.length (xs.flatMap f) hs hown ad 1 c2 ([y].flatMap f) hx (by rw [flat_len hf]; simp) (fun j u hu => Rds.flat hR hf j u hu)
    (fun u hu => by obtain ⟨y', _, hy⟩ := List.mem_flatMap.1 hu; exact hone y' u hy) h63 hbytes hbase (fun v' w' h1 h2 _ h4 => h v' w' ?_ h2 h4)
  unfold OwnV; rw [List.length_append, List.flatMap_append]; exact h1
/-- A slice that has just been built of its elements. -/
theorem OwnV.built {T : Type} {B sz : Nat} {f : T → List Value} (w : World) (xs : List T) (e : TypeId) (hB : B ≤ w.heap.size) (hm : xs.length ≤ maxLen) (hf : ∀ y, (f y).length = sz) :
    OwnV B e sz f (w.alloc (.cells (xs.flatMap f).toArray e)) (.slice (some ⟨w.heap.size, 0, none⟩) xs.length xs.length) xs :=
  OwnV.ofBlk (Blk.new w e _) hB (Nat.le_refl _) hm (by simp [flat_len hf]) (fun i x hx j u hu => by simpa using flat_get hf xs i x hx j u hu) hf
/-- Two slices of the call's own do not share a block. -/
def Ne2 (u v : Value) : Prop := ∀ k, u.ownBlock = some k → v.ownBlock ≠ some k
theorem Ne2.symm {u v : Value} (h : Ne2 u v) : Ne2 v u := fun k h1 h2 => h k h2 h1
theorem Ne2.step {u u' v : Value} {H : Nat} (h : Ne2 u v) (hv : ∀ k, v.ownBlock = some k → k < H) (ha : u'.ownBlock = u.ownBlock ∨ u'.ownBlock = some H) : Ne2 u' v := fun k h1 h2 => by
  rcases ha with ha | ha
  · exact h k (ha ▸ h1) h2
  · rw [ha] at h1; have := hv k h2; injection h1 with h1; omega
theorem OwnV.ne {T : Type} {B sz : Nat} {e : TypeId} {f : T → List Value} {w w' : World} {u v : Value} {xs : List T} (h : OwnV B e sz f w v xs) (hg : w.grownBy w' u.ownBlock) (hn : Ne2 u v) : OwnV B e sz f w' v xs :=
  h.kept hg (fun k h1 h2 => hn k h2.symm h1)


end Go.G9
/- Marks in slices of notices, texts. -/
namespace Go.Proofs.YtbnncgahepcfnaaGreatDoor
open Go.RowKit Go.G9
end Go.Proofs.YtbnncgahepcfnaaGreatDoor
