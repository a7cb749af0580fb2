/- A new floor. -/
import Derived.Test.YtpkagohflkcnkaaGreatDoorIv11
import Derived.Deep.Cut
import Derived.Test.YtpkagohflkcnkaaGreatDoorIv4
import Derived.Test.YtpkagohflkcnkaaGreatDoorIv3
import Derived.Test.YtpkagohflkcnkaaGreatDoorIv1
namespace Go.Proofs.YtpkagohflkcnkaaGreatDoor
open Go.RowKit Go.G9
def nfB (tu se : Int) : Bool := floB tu se 0 [] []
def nfOut (tu se : Int) (b : Bool) : Value := if b then .tuple #[.agg #[.int .i64 tu, .int .i64 se, .int .i64 0, .slice none 0 0, .slice none 0 0], .bool true] else .tuple #[.agg #[.int .i64 0, .int .i64 0, .int .i64 0, .slice none 0 0, .slice none 0 0], .bool false]
theorem rds_nilS {T : Type} {sz : Nat} {f : T → List Value} {w : World} {A : Option Addr} : Rds sz f w A ([] : List T) := fun h => absurd h (by simp)
end Go.Proofs.YtpkagohflkcnkaaGreatDoor
/- Marks in a floor and in a meeting. -/
namespace Go.Proofs.YtpkagohflkcnkaaGreatDoor
open Go.RowKit Go.G9
structure Flo where
  turns : Int
  secs : Int
  spk : Int
  wait : List Int
  shares : List Sha
end Go.Proofs.YtpkagohflkcnkaaGreatDoor
/- Marks held in a meeting. -/
namespace Go.Proofs.YtpkagohflkcnkaaGreatDoor
open Go.RowKit Go.G9
end Go.Proofs.YtpkagohflkcnkaaGreatDoor
/- The contracts of the meeting laws. -/
namespace Go.Proofs.YtpkagohflkcnkaaGreatDoor
open Go.RowKit Go.G9
def mbOut (m : Mee) : Value := if meetB m then .tuple #[.bool (debB m.rules m.pend), .bool true] else .tuple #[.bool false, .bool false]
theorem mbOut_form (m : Mee) : ∃ a b, mbOut m = .tuple #[.bool a, .bool b] := by unfold mbOut; split <;> exact ⟨_, _, rfl⟩
def lastR (rs : List Rul) (qs : List Que) : Option Rul := match qs[qs.length - 1]? with | some q => fnd rs q.rule | none => none
def pnOut (m : Mee) : Value := if meetB m then (match lastR m.rules m.pend with | some r => .tuple #[.string r.name, .bool true] | none => .tuple #[.string ⟨#[]⟩, .bool false]) else .tuple #[.string ⟨#[]⟩, .bool false]
theorem pnOut_form (m : Mee) : ∃ a b, pnOut m = .tuple #[.string a, .bool b] := by
  unfold pnOut; split
  · split <;> exact ⟨_, _, rfl⟩
  · exact ⟨_, _, rfl⟩
def movd (os : List Out) (n : Int) : Nat → Int × Int
  | 0 => (0, 0)
  | k + 1 => match os[k]? with | some o => if o.mover == n then ((movd os n k).1 + 1, (movd os n k).2 + (if o.ado then 1 else 0)) else movd os n k | none => movd os n k
theorem movd_bd (os : List Out) (n : Int) : ∀ k, 0 ≤ (movd os n k).1 ∧ (movd os n k).1 ≤ k ∧ 0 ≤ (movd os n k).2 ∧ (movd os n k).2 ≤ k
  | 0 => by simp [movd]
  | k + 1 => by
    have := movd_bd os n k
    unfold movd
    split
    · split
      · dsimp only; split <;> omega
      · omega
    · omega
def mvOut (m : Mee) (n : Int) : Value := if meetB m && memB n then .tuple #[.int .i64 (movd m.outs n m.outs.length).1, .int .i64 (movd m.outs n m.outs.length).2, .bool true] else .tuple #[.int .i64 0, .int .i64 0, .bool false]
theorem mvOut_form (m : Mee) (n : Int) : ∃ a b c, mvOut m n = .tuple #[.int .i64 a, .int .i64 b, .bool c] := by unfold mvOut; split <;> exact ⟨_, _, _, rfl⟩
theorem iIsValidMeeting_is (m : Mee) (A0 A1 A2 A3 A4 : Option Addr) (c0 c1 c2 c3 c4 : Nat) (h0 : m.rules.length ≤ 1048576) (h1 : m.pend.length ≤ 1048576) (h2 : m.wait.length ≤ 1048576) (h3 : m.shares.length ≤ 1048576) (h4 : m.outs.length ≤ 1048576) (v : Bool) (hv : meetB m = v) (w : World) (R0 : Rds 7 Rul.cells w A0 m.rules) (R1 : Rds 3 Que.cells w A1 m.pend) (R2 : Rds 1 intC w A2 m.wait) (R3 : Rds 3 Sha.cells w A3 m.shares) (R4 : Rds 3 Out.cells w A4 m.outs) (k0 : m.rules.length ≤ c0) (k1 : m.pend.length ≤ c1) (k2 : m.wait.length ≤ c2) (k3 : m.shares.length ≤ c3) (k4 : m.outs.length ≤ c4) :
  Calls Tryz.prog 17 #[.agg #[.slice A0 m.rules.length c0, .slice A1 m.pend.length c1, .int .i64 m.turns, .int .i64 m.secs, .int .i64 m.spk, .slice A2 m.wait.length c2, .slice A3 m.shares.length c3, .slice A4 m.outs.length c4]] w fun e w' => e = .returned (.bool v) ∧ Below w.heap.size w w' :=
  iMeet_is m.rules m.pend m.turns m.secs m.spk m.wait m.shares m.outs A0 A1 A2 A3 A4 c0 c1 c2 c3 c4 h0 h1 h2 h3 h4 v hv w R0 R1 R2 R3 R4 k0 k2
theorem l25Good_is (m : Mee) (A0 A1 A2 A3 A4 : Option Addr) (c0 c1 c2 c3 c4 : Nat) (h0 : m.rules.length ≤ 1048576) (h1 : m.pend.length ≤ 1048576) (h2 : m.wait.length ≤ 1048576) (h3 : m.shares.length ≤ 1048576) (h4 : m.outs.length ≤ 1048576) (v : Bool) (hv : meetB m = v) (w : World) (R0 : Rds 7 Rul.cells w A0 m.rules) (R1 : Rds 3 Que.cells w A1 m.pend) (R2 : Rds 1 intC w A2 m.wait) (R3 : Rds 3 Sha.cells w A3 m.shares) (R4 : Rds 3 Out.cells w A4 m.outs) (k0 : m.rules.length ≤ c0) (k1 : m.pend.length ≤ c1) (k2 : m.wait.length ≤ c2) (k3 : m.shares.length ≤ c3) (k4 : m.outs.length ≤ c4) :
  Calls Tryz.prog 31 #[.agg #[.slice A0 m.rules.length c0, .slice A1 m.pend.length c1, .int .i64 m.turns, .int .i64 m.secs, .int .i64 m.spk, .slice A2 m.wait.length c2, .slice A3 m.shares.length c3, .slice A4 m.outs.length c4]] w fun e w' => e = .returned (.bool v) ∧ Below w.heap.size w w' :=
  sMeet_is m.rules m.pend m.turns m.secs m.spk m.wait m.shares m.outs A0 A1 A2 A3 A4 c0 c1 c2 c3 c4 h0 h1 h2 h3 h4 v hv w R0 R1 R2 R3 R4 k0 k2
end Go.Proofs.YtpkagohflkcnkaaGreatDoor
/- The rules that a meeting adopted. -/
namespace Go.Proofs.YtpkagohflkcnkaaGreatDoor
open Go.RowKit Go.G9
def ar (os : List Out) : Nat → List Int
  | 0 => []
  | k + 1 => match os[k]? with | some o => if o.ado then ar os k ++ [o.rule] else ar os k | none => ar os k
theorem ar_len (os : List Out) : ∀ k, (ar os k).length ≤ k
  | 0 => Nat.le_refl _
  | k + 1 => by
    have := ar_len os k
    unfold ar
    split
    · split <;> simp <;> omega
    · omega
def arL (m : Mee) : List Int := if meetB m then ar m.outs m.outs.length else []
theorem arL_len (m : Mee) (h : m.outs.length ≤ 1048576) : (arL m).length ≤ 1048576 := by
  unfold arL; split
  · have := ar_len m.outs m.outs.length; omega
  · simp
theorem ar_yes {os : List Out} {k : Nat} {o : Out} (hx : os[k]? = some o) (h : o.ado = true) : ar os (k + 1) = ar os k ++ [o.rule] := by simp [ar, hx, h]
theorem ar_no {os : List Out} {k : Nat} {o : Out} (hx : os[k]? = some o) (h : o.ado = false) : ar os (k + 1) = ar os k := by simp [ar, hx, h]
end Go.Proofs.YtpkagohflkcnkaaGreatDoor
/- A new meeting. -/
namespace Go.G9
open Go.RowKit
theorem wpList_appO {P : Program} {w : World} {ops : Array Oper} {rest : List Oper} {o : Oper} {a : Act} {Q : Exit → Act → World → Prop} (hgd : o.guard = none) (s x : Operand) (t : TypeId)
    (ho : o.op = .call { callee := .builtin .append, args := #[s, x], argTypes := #[t, t] })
    (B : Nat) (e : TypeId) (i : TypeInfo) (z : Value) (sz bytes : Nat) (ht : P.underlying t = some (.slice e)) (hi : P.info? e = some i) (hz : i.zero = some z)
    (hsize : i.size = sz) (hby : i.bytes = bytes) (hzs : z.cells.size = sz) (hsz : 0 < sz) {T : Type} (f : T → List Value) (hf : ∀ y, (f y).length = sz) (hone : ∀ y u, u ∈ f y → u.oneCell' = true)
    (g : Nat) (hs : a.eval s = .slice (some ⟨g, 0, none⟩) 0 0) (hg : Blk w g e #[]) (hBg : B ≤ g) (A2 : Option Addr) (c2 : Nat) (ys : List T) (hx : a.eval x = .slice A2 ys.length c2) (hR : Rds sz f w A2 ys) (hA : A2 = none → ys = [] ∧ c2 = 0)
    (h63 : ys.length ≤ maxLen) (hbytes : ys.length * bytes ≤ 140737488355328)
    (h : ∀ g' c' w', OwnV B e sz f w' (.slice (some ⟨g', 0, none⟩) ys.length c') ys → Below w.heap.size w w' → wpList P ops Q rest (a.put o.dst (.slice (some ⟨g', 0, none⟩) ys.length c')) w') : wpList P ops Q (o :: rest) a w := by
  cases A2 with
  | some ad => exact wpList_appE hgd s x t ho B e i z sz bytes ht hi hz hsize hby hzs hsz f hf hone g hs hg hBg ad c2 ys hx hR h63 hbytes (fun g' c' w' h1 h2 _ => h g' c' w' h1 h2)
  | none =>
    obtain ⟨rfl, rfl⟩ := hA rfl
    have hO : OwnV B e sz f w (.slice (some ⟨g, 0, none⟩) 0 0) ([] : List T) := OwnV.ofBlk (xs := []) (cap := 0) hg hBg (Nat.le_refl _) (Nat.zero_le _) (by simp) (fun i x hx => by simp at hx) hf
    exact wpList_append_own_none hgd s x t ho B e i sz ht hi (.slice (some ⟨g, 0, none⟩) 0 0) 0 [] hs hO hx (h g 0 w hO (Below.refl _ _))
theorem apart_one5 (v : Value) : Apart [v, .slice none 0 0, .slice none 0 0, .slice none 0 0, .slice none 0 0] := by
  have hn : ∀ k : Nat, some k ≠ (Value.slice none 0 0).ownBlock := fun k h => by cases h
  have hm : ∀ k : Nat, (Value.slice none 0 0).ownBlock ≠ some k := fun k h => by cases h
  unfold Apart
  refine List.Pairwise.cons (fun u hu k _ => ?_) (List.Pairwise.cons (fun u hu k h => absurd h (hm k)) (List.Pairwise.cons (fun u hu k h => absurd h (hm k)) (List.Pairwise.cons (fun u hu k h => absurd h (hm k)) (List.Pairwise.cons (fun u hu => by simp at hu) List.Pairwise.nil))))
  simp only [List.mem_cons, List.not_mem_nil, or_false, or_self] at hu
  subst hu; exact hn k
end Go.G9
namespace Go.Proofs.YtpkagohflkcnkaaGreatDoor
open Go.RowKit Go.G9
def nmB (rs : List Rul) (tu se : Int) : Bool := nfB tu se && rulesB rs
def nmM (rs : List Rul) (tu se : Int) : Mee := if nmB rs tu se then ⟨rs, [], tu, se, 0, [], [], []⟩ else ⟨[], [], 0, 0, 0, [], [], []⟩
theorem nmM_yes {rs : List Rul} {tu se : Int} (h : nmB rs tu se = true) : nmM rs tu se = ⟨rs, [], tu, se, 0, [], [], []⟩ := by simp [nmM, h]
theorem nmM_no {rs : List Rul} {tu se : Int} (h : nmB rs tu se = false) : nmM rs tu se = ⟨[], [], 0, 0, 0, [], [], []⟩ := by simp [nmM, h]
theorem nmM_len (rs : List Rul) (tu se : Int) (h : rs.length ≤ 1048576) : (nmM rs tu se).rules.length ≤ 1048576 := by unfold nmM; split <;> simp <;> omega
theorem nmM_l1 (rs : List Rul) (tu se : Int) : (nmM rs tu se).pend.length ≤ 1048576 := by unfold nmM; split <;> simp
theorem nmM_l2 (rs : List Rul) (tu se : Int) : (nmM rs tu se).wait.length ≤ 1048576 := by unfold nmM; split <;> simp
theorem nmM_l3 (rs : List Rul) (tu se : Int) : (nmM rs tu se).shares.length ≤ 1048576 := by unfold nmM; split <;> simp
theorem nmM_l4 (rs : List Rul) (tu se : Int) : (nmM rs tu se).outs.length ≤ 1048576 := by unfold nmM; split <;> simp
theorem rul_len (x : Rul) : (Rul.cells x).length = 7 := rfl
theorem rul_one (x : Rul) : ∀ u, u ∈ Rul.cells x → u.oneCell' = true := by
  intro u hu
  simp only [Rul.cells, List.mem_cons, List.not_mem_nil, or_false] at hu
  rcases hu with rfl | rfl | rfl | rfl | rfl | rfl | rfl <;> rfl
def nmS (rs : List Rul) (e : TypeId) : MkSpec (Nat × Nat) where
  par := fun n => match n with
    | 2 => [0]
    | _ => []
  val := fun n p => match n with
    | 0 => .slice (some ⟨p.1, 0, none⟩) 0 0
    | 2 => .slice (some ⟨p.1, 0, none⟩) rs.length p.2
    | _ => undef
  post := fun n σ p V0 V => match n with
    | 0 => V0.heap.size = p.1 ∧ Blk V p.1 e #[]
    | 2 => OwnV (σ 0).1 e 7 Rul.cells V (.slice (some ⟨p.1, 0, none⟩) rs.length p.2) rs
    | _ => True
end Go.Proofs.YtpkagohflkcnkaaGreatDoor
