/- A new meeting. -/
import Derived.Test.YtkkdegmfmimdgaaNc12
import Derived.Test.YtkkdegmfmimdgaaNc3
import Derived.Test.YtkkdegmfmimdgaaNc1
import Derived.Test.YtkkdegmfmimdgaaNc14
import Derived.Deep.Cut
namespace Go.G9
open Go.RowKit
theorem wpList_appO {P : Program} {w : World} {ops : Array Oper} {rest : List Oper} {o : Oper} {a : Act} {Q : Exit → Act → World → Prop} (hgd : o.guard = none) (s x : Operand) (t : TypeId)
    (ho : o.op = .call { callee := .builtin .append, args := #[s, x], argTypes := #[t, t] })
    (B : Nat) (e : TypeId) (i : TypeInfo) (z : Value) (sz bytes : Nat) (ht : P.underlying t = some (.slice e)) (hi : P.info? e = some i) (hz : i.zero = some z)
    (hsize : i.size = sz) (hby : i.bytes = bytes) (hzs : z.cells.size = sz) (hsz : 0 < sz) {T : Type} (f : T → List Value) (hf : ∀ y, (f y).length = sz) (hone : ∀ y u, u ∈ f y → u.oneCell' = true)
    (g : Nat) (hs : a.eval s = .slice (some ⟨g, 0, none⟩) 0 0) (hg : Blk w g e #[]) (hBg : B ≤ g) (A2 : Option Addr) (c2 : Nat) (ys : List T) (hx : a.eval x = .slice A2 ys.length c2) (hR : Rds sz f w A2 ys) (hA : A2 = none → ys = [] ∧ c2 = 0)
    (h63 : ys.length ≤ maxLen) (hbytes : ys.length * bytes ≤ 140737488355328)
    (h : ∀ g' c' w', OwnV B e sz f w' (.slice (some ⟨g', 0, none⟩) ys.length c') ys → Below w.heap.size w w' → wpList P ops Q rest (a.put o.dst (.slice (some ⟨g', 0, none⟩) ys.length c')) w') : wpList P ops Q (o :: rest) a w := by
  cases A2 with
  | some ad => exact wpList_appE hgd s x t ho B e i z sz bytes ht hi hz hsize hby hzs hsz f hf hone g hs hg hBg ad c2 ys hx hR h63 hbytes (fun g' c' w' h1 h2 _ => h g' c' w' h1 h2)
  | none =>
    obtain ⟨rfl, rfl⟩ := hA rfl
    have hO : OwnV B e sz f w (.slice (some ⟨g, 0, none⟩) 0 0) ([] : List T) := OwnV.ofBlk (xs := []) (cap := 0) hg hBg (Nat.le_refl _) (Nat.zero_le _) (by simp) (fun i x hx => by simp at hx) hf
    exact wpList_append_own_none hgd s x t ho B e i sz ht hi (.slice (some ⟨g, 0, none⟩) 0 0) 0 [] hs hO hx (h g 0 w hO (Below.refl _ _))
theorem apart_one5 (v : Value) : Apart [v, .slice none 0 0, .slice none 0 0, .slice none 0 0, .slice none 0 0] := by
  have hn : ∀ k : Nat, some k ≠ (Value.slice none 0 0).ownBlock := fun k h => by cases h
  have hm : ∀ k : Nat, (Value.slice none 0 0).ownBlock ≠ some k := fun k h => by cases h
  unfold Apart
  refine List.Pairwise.cons (fun u hu k _ => ?_) (List.Pairwise.cons (fun u hu k h => absurd h (hm k)) (List.Pairwise.cons (fun u hu k h => absurd h (hm k)) (List.Pairwise.cons (fun u hu k h => absurd h (hm k)) (List.Pairwise.cons (fun u hu => by simp at hu) List.Pairwise.nil))))
  simp only [List.mem_cons, List.not_mem_nil, or_false, or_self] at hu
  subst hu; exact hn k
end Go.G9
namespace Go.Proofs.Ytkkdegmfmimdgaa
open Go.RowKit Go.G9
def nmB (rs : List Rul) (tu se : Int) : Bool := nfB tu se && rulesB rs
def nmM (rs : List Rul) (tu se : Int) : Mee := if nmB rs tu se then ⟨rs, [], tu, se, 0, [], [], []⟩ else ⟨[], [], 0, 0, 0, [], [], []⟩
theorem nmM_yes {rs : List Rul} {tu se : Int} (h : nmB rs tu se = true) : nmM rs tu se = ⟨rs, [], tu, se, 0, [], [], []⟩ := by simp [nmM, h]
theorem nmM_no {rs : List Rul} {tu se : Int} (h : nmB rs tu se = false) : nmM rs tu se = ⟨[], [], 0, 0, 0, [], [], []⟩ := by simp [nmM, h]
theorem nmM_len (rs : List Rul) (tu se : Int) (h : rs.length ≤ 1048576) : (nmM rs tu se).rules.length ≤ 1048576 := by unfold nmM; split <;> simp <;> omega
theorem nmM_l1 (rs : List Rul) (tu se : Int) : (nmM rs tu se).pend.length ≤ 1048576 := by unfold nmM; split <;> simp
theorem nmM_l2 (rs : List Rul) (tu se : Int) : (nmM rs tu se).wait.length ≤ 1048576 := by unfold nmM; split <;> simp
theorem nmM_l3 (rs : List Rul) (tu se : Int) : (nmM rs tu se).shares.length ≤ 1048576 := by unfold nmM; split <;> simp
theorem nmM_l4 (rs : List Rul) (tu se : Int) : (nmM rs tu se).outs.length ≤ 1048576 := by unfold nmM; split <;> simp
theorem rul_len (x : Rul) : (Rul.cells x).length = 7 := rfl
theorem rul_one (x : Rul) : ∀ u, u ∈ Rul.cells x → u.oneCell' = true := by
  intro u hu
  simp only [Rul.cells, List.mem_cons, List.not_mem_nil, or_false] at hu
  rcases hu with rfl | rfl | rfl | rfl | rfl | rfl | rfl <;> rfl
def nmS (rs : List Rul) (e : TypeId) : MkSpec (Nat × Nat) where
  par := fun n => match n with
    | 2 => [0]
    | _ => []
  val := fun n p => match n with
    | 0 => .slice (some ⟨p.1, 0, none⟩) 0 0
    | 2 => .slice (some ⟨p.1, 0, none⟩) rs.length p.2
    | _ => undef
  post := fun n σ p V0 V => match n with
    | 0 => V0.heap.size = p.1 ∧ Blk V p.1 e #[]
    | 2 => OwnV (σ 0).1 e 7 Rul.cells V (.slice (some ⟨p.1, 0, none⟩) rs.length p.2) rs
    | _ => True
set_option maxHeartbeats 4000000 in
set_option maxRecDepth 100000 in
theorem iNewMeeting_is (A : Option Addr) (c : Nat) (rs : List Rul) (hn : rs.length ≤ 1048576) (tu se : Int) (w : World) (hR : Rds 7 Rul.cells w A rs) (hA : A = none → rs = [] ∧ c = 0) (kc : rs.length ≤ c) :
  Calls Try.prog 24 #[.slice A rs.length c, .int .i64 tu, .int .i64 se] w fun e w' => ∃ D0 d0 D1 d1 D2 d2 D3 d3 D4 d4, e = .returned (.tuple #[.agg #[.slice D0 (nmM rs tu se).rules.length d0, .slice D1 (nmM rs tu se).pend.length d1, .int .i64 (nmM rs tu se).turns, .int .i64 (nmM rs tu se).secs, .int .i64 (nmM rs tu se).spk, .slice D2 (nmM rs tu se).wait.length d2, .slice D3 (nmM rs tu se).shares.length d3, .slice D4 (nmM rs tu se).outs.length d4], .bool (nmB rs tu se)]) ∧ OwnV w.heap.size 88 7 Rul.cells w' (.slice D0 (nmM rs tu se).rules.length d0) (nmM rs tu se).rules ∧ OwnV w.heap.size 90 3 Que.cells w' (.slice D1 (nmM rs tu se).pend.length d1) (nmM rs tu se).pend ∧ OwnV w.heap.size 3 1 intC w' (.slice D2 (nmM rs tu se).wait.length d2) (nmM rs tu se).wait ∧ OwnV w.heap.size 114 3 Sha.cells w' (.slice D3 (nmM rs tu se).shares.length d3) (nmM rs tu se).shares ∧ OwnV w.heap.size 81 3 Out.cells w' (.slice D4 (nmM rs tu se).outs.length d4) (nmM rs tu se).outs ∧ Apart [.slice D0 (nmM rs tu se).rules.length d0, .slice D1 (nmM rs tu se).pend.length d1, .slice D2 (nmM rs tu se).wait.length d2, .slice D3 (nmM rs tu se).shares.length d3, .slice D4 (nmM rs tu se).outs.length d4] ∧ Below w.heap.size w w' := by
  obtain ⟨i0, hi, hz0, hz1, hz2⟩ := info_parts info_Rul
  have HR0 := Lib.hid hR
  have HNA := Lib.hid hA
  clear hA
  cases hnf : nfB tu se
  · have HN := Lib.hid hnf
    have HB2 : Hid (nmB rs tu se = false) := Lib.hid (by simp [nmB, hnf])
    clear hnf
    go_enter Try.func24, Try.ntmps24
    go_upto_region 1 with fail
    have hq1 : Below w.heap.size w (World.alloc w (.cells #[.slice none 0 0, .slice none 0 0, .int .i64 0, .int .i64 0, .int .i64 0, .slice none 0 0, .slice none 0 0, .slice none 0 0] 40)) := bl1 w _
    have hZ : Blk (World.alloc w (.cells #[.slice none 0 0, .slice none 0 0, .int .i64 0, .int .i64 0, .int .i64 0, .slice none 0 0, .slice none 0 0, .slice none 0 0] 40)) (w.heap.size) 40 #[.slice none 0 0, .slice none 0 0, .int .i64 0, .int .i64 0, .int .i64 0, .slice none 0 0, .slice none 0 0, .slice none 0 0] := by repeat (first | exact Blk.new _ _ _ | exact Blk.new2 _ _ _ _ | exact Blk.new3 _ _ _ _ _ | exact Blk.new4 _ _ _ _ _ _ | refine Blk.alloc ?_ _)
    replace hR := hR.below hq1
    generalize World.alloc w (.cells #[.slice none 0 0, .slice none 0 0, .int .i64 0, .int .i64 0, .int .i64 0, .slice none 0 0, .slice none 0 0, .slice none 0 0] 40) = wX at *
    have HB := hq1
    have z0 := (hZ.cell 0).trans (show _ = some (.slice none 0 0) from rfl)
    have z1 := (hZ.cell 1).trans (show _ = some (.slice none 0 0) from rfl)
    have z2 := (hZ.cell 2).trans (show _ = some (.int .i64 0) from rfl)
    have z3 := (hZ.cell 3).trans (show _ = some (.int .i64 0) from rfl)
    have z4 := (hZ.cell 4).trans (show _ = some (.int .i64 0) from rfl)
    have z5 := (hZ.cell 5).trans (show _ = some (.slice none 0 0) from rfl)
    have z6 := (hZ.cell 6).trans (show _ = some (.slice none 0 0) from rfl)
    have z7 := (hZ.cell 7).trans (show _ = some (.slice none 0 0) from rfl)
    have hz0' := hZ.lt
    go_wp2_with fail
    refine (iNewFloorF_is tu se HN.out _).mono ?_
    rintro e w2 ⟨rfl, hb2⟩
    have hq2 : Below wX.heap.size wX w2 := bth (by repeat (first | exact Below.refl _ _ | refine Below.alloc ?_ (by first | exact Nat.le_refl _ | (simp <;> omega)) _ | refine Below.setCell ?_ (by first | exact Nat.le_refl _ | (simp <;> omega)) _)) hb2
    replace HB := bth HB hq2
    replace hR := hR.below hq2
    replace hZ := hZ.below hq2 hZ.lt
    replace z0 := (hZ.cell 0).trans (show _ = some (.slice none 0 0) from rfl)
    replace z1 := (hZ.cell 1).trans (show _ = some (.slice none 0 0) from rfl)
    replace z2 := (hZ.cell 2).trans (show _ = some (.int .i64 0) from rfl)
    replace z3 := (hZ.cell 3).trans (show _ = some (.int .i64 0) from rfl)
    replace z4 := (hZ.cell 4).trans (show _ = some (.int .i64 0) from rfl)
    replace z5 := (hZ.cell 5).trans (show _ = some (.slice none 0 0) from rfl)
    replace z6 := (hZ.cell 6).trans (show _ = some (.slice none 0 0) from rfl)
    replace z7 := (hZ.cell 7).trans (show _ = some (.slice none 0 0) from rfl)
    have zq2 := hq2.size
    go_upto_region 2 with fail
    have hq3 : Below w2.heap.size w2 (World.alloc w2 (.cells #[.int .i64 0, .int .i64 0, .int .i64 0, .slice none 0 0, .slice none 0 0] 37)) := bl1 w2 _
    have hF : Blk (World.alloc w2 (.cells #[.int .i64 0, .int .i64 0, .int .i64 0, .slice none 0 0, .slice none 0 0] 37)) (w2.heap.size) 37 #[.int .i64 0, .int .i64 0, .int .i64 0, .slice none 0 0, .slice none 0 0] := by repeat (first | exact Blk.new _ _ _ | exact Blk.new2 _ _ _ _ | exact Blk.new3 _ _ _ _ _ | exact Blk.new4 _ _ _ _ _ _ | refine Blk.alloc ?_ _)
    replace hR := hR.below hq3
    generalize World.alloc w2 (.cells #[.int .i64 0, .int .i64 0, .int .i64 0, .slice none 0 0, .slice none 0 0] 37) = wF at *
    replace HB := bth HB hq3
    have f0 := (hF.cell 0).trans (show _ = some (.int .i64 0) from rfl)
    have f1 := (hF.cell 1).trans (show _ = some (.int .i64 0) from rfl)
    have f2 := (hF.cell 2).trans (show _ = some (.int .i64 0) from rfl)
    have f3 := (hF.cell 3).trans (show _ = some (.slice none 0 0) from rfl)
    have f4 := (hF.cell 4).trans (show _ = some (.slice none 0 0) from rfl)
    replace hZ := hZ.below hq3 hZ.lt
    clear z0 z1 z2 z3 z4 z5 z6 z7
    have z0 := (hZ.cell 0).trans (show _ = some (.slice none 0 0) from rfl)
    have z1 := (hZ.cell 1).trans (show _ = some (.slice none 0 0) from rfl)
    have z2 := (hZ.cell 2).trans (show _ = some (.int .i64 0) from rfl)
    have z3 := (hZ.cell 3).trans (show _ = some (.int .i64 0) from rfl)
    have z4 := (hZ.cell 4).trans (show _ = some (.int .i64 0) from rfl)
    have z5 := (hZ.cell 5).trans (show _ = some (.slice none 0 0) from rfl)
    have z6 := (hZ.cell 6).trans (show _ = some (.slice none 0 0) from rfl)
    have z7 := (hZ.cell 7).trans (show _ = some (.slice none 0 0) from rfl)
    have fhZ0 := hZ.frozen 0
    have fhZ1 := hZ.frozen 1
    have fhZ2 := hZ.frozen 2
    have fhZ3 := hZ.frozen 3
    have fhZ4 := hZ.frozen 4
    have fhZ5 := hZ.frozen 5
    have fhZ6 := hZ.frozen 6
    have fhZ7 := hZ.frozen 7
    have yhF := hF.lt
    have yhZ := hZ.lt
    go_wp2
    clear f0 f1 f2 f3 f4 z0 z1 z2 z3 z4 z5 z6 z7
    replace HB : Below w.heap.size w (World.setCell (World.setCell (World.setCell (World.setCell (World.setCell (World.setCell (World.setCell (World.setCell wF ⟨w.heap.size, 0, none⟩ (.slice none 0 0)) ⟨w.heap.size, 1, none⟩ (.slice none 0 0)) ⟨w.heap.size, 2, none⟩ (.int .i64 0)) ⟨w.heap.size, 3, none⟩ (.int .i64 0)) ⟨w.heap.size, 4, none⟩ (.int .i64 0)) ⟨w.heap.size, 5, none⟩ (.slice none 0 0)) ⟨w.heap.size, 6, none⟩ (.slice none 0 0)) ⟨w.heap.size, 7, none⟩ (.slice none 0 0)) := ((((((((HB.setCell (by show w.heap.size ≤ w.heap.size; omega) (.slice none 0 0) (p := ⟨w.heap.size, 0, none⟩)).setCell (by show w.heap.size ≤ w.heap.size; omega) (.slice none 0 0) (p := ⟨w.heap.size, 1, none⟩)).setCell (by show w.heap.size ≤ w.heap.size; omega) (.int .i64 0) (p := ⟨w.heap.size, 2, none⟩)).setCell (by show w.heap.size ≤ w.heap.size; omega) (.int .i64 0) (p := ⟨w.heap.size, 3, none⟩)).setCell (by show w.heap.size ≤ w.heap.size; omega) (.int .i64 0) (p := ⟨w.heap.size, 4, none⟩)).setCell (by show w.heap.size ≤ w.heap.size; omega) (.slice none 0 0) (p := ⟨w.heap.size, 5, none⟩)).setCell (by show w.heap.size ≤ w.heap.size; omega) (.slice none 0 0) (p := ⟨w.heap.size, 6, none⟩)).setCell (by show w.heap.size ≤ w.heap.size; omega) (.slice none 0 0) (p := ⟨w.heap.size, 7, none⟩))
    replace hF := ((((((((hF.far' (p := ⟨w.heap.size, 0, none⟩) (by show _ ≠ w.heap.size; omega) (.slice none 0 0)).far' (p := ⟨w.heap.size, 1, none⟩) (by show _ ≠ w.heap.size; omega) (.slice none 0 0)).far' (p := ⟨w.heap.size, 2, none⟩) (by show _ ≠ w.heap.size; omega) (.int .i64 0)).far' (p := ⟨w.heap.size, 3, none⟩) (by show _ ≠ w.heap.size; omega) (.int .i64 0)).far' (p := ⟨w.heap.size, 4, none⟩) (by show _ ≠ w.heap.size; omega) (.int .i64 0)).far' (p := ⟨w.heap.size, 5, none⟩) (by show _ ≠ w.heap.size; omega) (.slice none 0 0)).far' (p := ⟨w.heap.size, 6, none⟩) (by show _ ≠ w.heap.size; omega) (.slice none 0 0)).far' (p := ⟨w.heap.size, 7, none⟩) (by show _ ≠ w.heap.size; omega) (.slice none 0 0))
    replace hZ : Blk (World.setCell (World.setCell (World.setCell (World.setCell (World.setCell (World.setCell (World.setCell (World.setCell wF ⟨w.heap.size, 0, none⟩ (.slice none 0 0)) ⟨w.heap.size, 1, none⟩ (.slice none 0 0)) ⟨w.heap.size, 2, none⟩ (.int .i64 0)) ⟨w.heap.size, 3, none⟩ (.int .i64 0)) ⟨w.heap.size, 4, none⟩ (.int .i64 0)) ⟨w.heap.size, 5, none⟩ (.slice none 0 0)) ⟨w.heap.size, 6, none⟩ (.slice none 0 0)) ⟨w.heap.size, 7, none⟩ (.slice none 0 0)) (w.heap.size) 40 #[.slice none 0 0, .slice none 0 0, .int .i64 0, .int .i64 0, .int .i64 0, .slice none 0 0, .slice none 0 0, .slice none 0 0] := ((((((((hZ.set_ 0 (.slice none 0 0)).set_ 1 (.slice none 0 0)).set_ 2 (.int .i64 0)).set_ 3 (.int .i64 0)).set_ 4 (.int .i64 0)).set_ 5 (.slice none 0 0)).set_ 6 (.slice none 0 0)).set_ 7 (.slice none 0 0))
    have szW9 : ((World.setCell (World.setCell (World.setCell (World.setCell (World.setCell (World.setCell (World.setCell (World.setCell wF ⟨w.heap.size, 0, none⟩ (.slice none 0 0)) ⟨w.heap.size, 1, none⟩ (.slice none 0 0)) ⟨w.heap.size, 2, none⟩ (.int .i64 0)) ⟨w.heap.size, 3, none⟩ (.int .i64 0)) ⟨w.heap.size, 4, none⟩ (.int .i64 0)) ⟨w.heap.size, 5, none⟩ (.slice none 0 0)) ⟨w.heap.size, 6, none⟩ (.slice none 0 0)) ⟨w.heap.size, 7, none⟩ (.slice none 0 0))).heap.size = wF.heap.size := by simp [World.setCell]
    generalize World.setCell (World.setCell (World.setCell (World.setCell (World.setCell (World.setCell (World.setCell (World.setCell wF ⟨w.heap.size, 0, none⟩ (.slice none 0 0)) ⟨w.heap.size, 1, none⟩ (.slice none 0 0)) ⟨w.heap.size, 2, none⟩ (.int .i64 0)) ⟨w.heap.size, 3, none⟩ (.int .i64 0)) ⟨w.heap.size, 4, none⟩ (.int .i64 0)) ⟨w.heap.size, 5, none⟩ (.slice none 0 0)) ⟨w.heap.size, 6, none⟩ (.slice none 0 0)) ⟨w.heap.size, 7, none⟩ (.slice none 0 0) = W9 at *
    have f0 := (hF.cell 0).trans (show _ = some (.int .i64 0) from rfl)
    have f1 := (hF.cell 1).trans (show _ = some (.int .i64 0) from rfl)
    have f2 := (hF.cell 2).trans (show _ = some (.int .i64 0) from rfl)
    have f3 := (hF.cell 3).trans (show _ = some (.slice none 0 0) from rfl)
    have f4 := (hF.cell 4).trans (show _ = some (.slice none 0 0) from rfl)
    have z0 := (hZ.cell 0).trans (show _ = some (.slice none 0 0) from rfl)
    have z1 := (hZ.cell 1).trans (show _ = some (.slice none 0 0) from rfl)
    have z2 := (hZ.cell 2).trans (show _ = some (.int .i64 0) from rfl)
    have z3 := (hZ.cell 3).trans (show _ = some (.int .i64 0) from rfl)
    have z4 := (hZ.cell 4).trans (show _ = some (.int .i64 0) from rfl)
    have z5 := (hZ.cell 5).trans (show _ = some (.slice none 0 0) from rfl)
    have z6 := (hZ.cell 6).trans (show _ = some (.slice none 0 0) from rfl)
    have z7 := (hZ.cell 7).trans (show _ = some (.slice none 0 0) from rfl)
    refine bodyPost_ret (v := .tuple #[.agg #[.slice none 0 0, .slice none 0 0, .int .i64 0, .int .i64 0, .int .i64 0, .slice none 0 0, .slice none 0 0, .slice none 0 0], .bool false]) (by simp [results, Try.results24, go_sem, z0, z1, z2, z3, z4, z5, z6, z7]) rfl ?_
    rw [nmM_no HB2.out, HB2.out]
    exact ⟨none, 0, none, 0, none, 0, none, 0, none, 0, rfl, OwnV.nil, OwnV.nil, OwnV.nil, OwnV.nil, OwnV.nil, apart_one5 _, HB⟩
  cases hrb : rulesB rs
  · have HN := Lib.hid hnf
    have HV := Lib.hid hrb
    have HB2 : Hid (nmB rs tu se = false) := Lib.hid (by simp [nmB, hrb])
    clear hnf hrb
    go_enter Try.func24, Try.ntmps24
    go_upto_region 1 with fail
    have hq1 : Below w.heap.size w (World.alloc w (.cells #[.slice none 0 0, .slice none 0 0, .int .i64 0, .int .i64 0, .int .i64 0, .slice none 0 0, .slice none 0 0, .slice none 0 0] 40)) := bl1 w _
    have hZ : Blk (World.alloc w (.cells #[.slice none 0 0, .slice none 0 0, .int .i64 0, .int .i64 0, .int .i64 0, .slice none 0 0, .slice none 0 0, .slice none 0 0] 40)) (w.heap.size) 40 #[.slice none 0 0, .slice none 0 0, .int .i64 0, .int .i64 0, .int .i64 0, .slice none 0 0, .slice none 0 0, .slice none 0 0] := by repeat (first | exact Blk.new _ _ _ | exact Blk.new2 _ _ _ _ | exact Blk.new3 _ _ _ _ _ | exact Blk.new4 _ _ _ _ _ _ | refine Blk.alloc ?_ _)
    replace hR := hR.below hq1
    generalize World.alloc w (.cells #[.slice none 0 0, .slice none 0 0, .int .i64 0, .int .i64 0, .int .i64 0, .slice none 0 0, .slice none 0 0, .slice none 0 0] 40) = wX at *
    have HB := hq1
    have z0 := (hZ.cell 0).trans (show _ = some (.slice none 0 0) from rfl)
    have z1 := (hZ.cell 1).trans (show _ = some (.slice none 0 0) from rfl)
    have z2 := (hZ.cell 2).trans (show _ = some (.int .i64 0) from rfl)
    have z3 := (hZ.cell 3).trans (show _ = some (.int .i64 0) from rfl)
    have z4 := (hZ.cell 4).trans (show _ = some (.int .i64 0) from rfl)
    have z5 := (hZ.cell 5).trans (show _ = some (.slice none 0 0) from rfl)
    have z6 := (hZ.cell 6).trans (show _ = some (.slice none 0 0) from rfl)
    have z7 := (hZ.cell 7).trans (show _ = some (.slice none 0 0) from rfl)
    have hz0' := hZ.lt
    go_wp2_with fail
    refine (iNewFloorT_is tu se HN.out _).mono ?_
    rintro e w2 ⟨rfl, hb2⟩
    have hq2 : Below wX.heap.size wX w2 := bth (by repeat (first | exact Below.refl _ _ | refine Below.alloc ?_ (by first | exact Nat.le_refl _ | (simp <;> omega)) _ | refine Below.setCell ?_ (by first | exact Nat.le_refl _ | (simp <;> omega)) _)) hb2
    replace HB := bth HB hq2
    replace hR := hR.below hq2
    replace hZ := hZ.below hq2 hZ.lt
    replace z0 := (hZ.cell 0).trans (show _ = some (.slice none 0 0) from rfl)
    replace z1 := (hZ.cell 1).trans (show _ = some (.slice none 0 0) from rfl)
    replace z2 := (hZ.cell 2).trans (show _ = some (.int .i64 0) from rfl)
    replace z3 := (hZ.cell 3).trans (show _ = some (.int .i64 0) from rfl)
    replace z4 := (hZ.cell 4).trans (show _ = some (.int .i64 0) from rfl)
    replace z5 := (hZ.cell 5).trans (show _ = some (.slice none 0 0) from rfl)
    replace z6 := (hZ.cell 6).trans (show _ = some (.slice none 0 0) from rfl)
    replace z7 := (hZ.cell 7).trans (show _ = some (.slice none 0 0) from rfl)
    have zq2 := hq2.size
    go_upto_region 2 with fail
    have hq3 : Below w2.heap.size w2 (World.alloc w2 (.cells #[.int .i64 tu, .int .i64 se, .int .i64 0, .slice none 0 0, .slice none 0 0] 37)) := bl1 w2 _
    have hF : Blk (World.alloc w2 (.cells #[.int .i64 tu, .int .i64 se, .int .i64 0, .slice none 0 0, .slice none 0 0] 37)) (w2.heap.size) 37 #[.int .i64 tu, .int .i64 se, .int .i64 0, .slice none 0 0, .slice none 0 0] := by repeat (first | exact Blk.new _ _ _ | exact Blk.new2 _ _ _ _ | exact Blk.new3 _ _ _ _ _ | exact Blk.new4 _ _ _ _ _ _ | refine Blk.alloc ?_ _)
    replace hR := hR.below hq3
    generalize World.alloc w2 (.cells #[.int .i64 tu, .int .i64 se, .int .i64 0, .slice none 0 0, .slice none 0 0] 37) = wF at *
    replace HB := bth HB hq3
    have f0 := (hF.cell 0).trans (show _ = some (.int .i64 tu) from rfl)
    have f1 := (hF.cell 1).trans (show _ = some (.int .i64 se) from rfl)
    have f2 := (hF.cell 2).trans (show _ = some (.int .i64 0) from rfl)
    have f3 := (hF.cell 3).trans (show _ = some (.slice none 0 0) from rfl)
    have f4 := (hF.cell 4).trans (show _ = some (.slice none 0 0) from rfl)
    replace hZ := hZ.below hq3 hZ.lt
    clear z0 z1 z2 z3 z4 z5 z6 z7
    have z0 := (hZ.cell 0).trans (show _ = some (.slice none 0 0) from rfl)
    have z1 := (hZ.cell 1).trans (show _ = some (.slice none 0 0) from rfl)
    have z2 := (hZ.cell 2).trans (show _ = some (.int .i64 0) from rfl)
    have z3 := (hZ.cell 3).trans (show _ = some (.int .i64 0) from rfl)
    have z4 := (hZ.cell 4).trans (show _ = some (.int .i64 0) from rfl)
    have z5 := (hZ.cell 5).trans (show _ = some (.slice none 0 0) from rfl)
    have z6 := (hZ.cell 6).trans (show _ = some (.slice none 0 0) from rfl)
    have z7 := (hZ.cell 7).trans (show _ = some (.slice none 0 0) from rfl)
    go_wp2_with fail
    refine (isValidRules_is A c rs hn kc _ HV.out _ (hR.below (by repeat (first | exact Below.refl _ _ | refine Below.alloc ?_ (by first | exact Nat.le_refl _ | (simp <;> omega)) _ | refine Below.setCell ?_ (by first | exact Nat.le_refl _ | (simp <;> omega)) _)))).mono ?_
    rintro e w4 ⟨rfl, hb4⟩
    have hq4 : Below wF.heap.size wF w4 := bth (by repeat (first | exact Below.refl _ _ | refine Below.alloc ?_ (by first | exact Nat.le_refl _ | (simp <;> omega)) _ | refine Below.setCell ?_ (by first | exact Nat.le_refl _ | (simp <;> omega)) _)) hb4
    replace HB := bth HB hq4
    replace hR := hR.below hq4
    replace hF := hF.below hq4 hF.lt
    replace f0 := (hF.cell 0).trans (show _ = some (.int .i64 tu) from rfl)
    replace f1 := (hF.cell 1).trans (show _ = some (.int .i64 se) from rfl)
    replace f2 := (hF.cell 2).trans (show _ = some (.int .i64 0) from rfl)
    replace f3 := (hF.cell 3).trans (show _ = some (.slice none 0 0) from rfl)
    replace f4 := (hF.cell 4).trans (show _ = some (.slice none 0 0) from rfl)
    replace hZ := hZ.below hq4 hZ.lt
    replace z0 := (hZ.cell 0).trans (show _ = some (.slice none 0 0) from rfl)
    replace z1 := (hZ.cell 1).trans (show _ = some (.slice none 0 0) from rfl)
    replace z2 := (hZ.cell 2).trans (show _ = some (.int .i64 0) from rfl)
    replace z3 := (hZ.cell 3).trans (show _ = some (.int .i64 0) from rfl)
    replace z4 := (hZ.cell 4).trans (show _ = some (.int .i64 0) from rfl)
    replace z5 := (hZ.cell 5).trans (show _ = some (.slice none 0 0) from rfl)
    replace z6 := (hZ.cell 6).trans (show _ = some (.slice none 0 0) from rfl)
    replace z7 := (hZ.cell 7).trans (show _ = some (.slice none 0 0) from rfl)
    have fhZ0 := hZ.frozen 0
    have fhZ1 := hZ.frozen 1
    have fhZ2 := hZ.frozen 2
    have fhZ3 := hZ.frozen 3
    have fhZ4 := hZ.frozen 4
    have fhZ5 := hZ.frozen 5
    have fhZ6 := hZ.frozen 6
    have fhZ7 := hZ.frozen 7
    have yhF := hF.lt
    have yhZ := hZ.lt
    go_wp2
    clear f0 f1 f2 f3 f4 z0 z1 z2 z3 z4 z5 z6 z7
    replace HB : Below w.heap.size w (World.setCell (World.setCell (World.setCell (World.setCell (World.setCell (World.setCell (World.setCell (World.setCell w4 ⟨w.heap.size, 0, none⟩ (.slice none 0 0)) ⟨w.heap.size, 1, none⟩ (.slice none 0 0)) ⟨w.heap.size, 2, none⟩ (.int .i64 0)) ⟨w.heap.size, 3, none⟩ (.int .i64 0)) ⟨w.heap.size, 4, none⟩ (.int .i64 0)) ⟨w.heap.size, 5, none⟩ (.slice none 0 0)) ⟨w.heap.size, 6, none⟩ (.slice none 0 0)) ⟨w.heap.size, 7, none⟩ (.slice none 0 0)) := ((((((((HB.setCell (by show w.heap.size ≤ w.heap.size; omega) (.slice none 0 0) (p := ⟨w.heap.size, 0, none⟩)).setCell (by show w.heap.size ≤ w.heap.size; omega) (.slice none 0 0) (p := ⟨w.heap.size, 1, none⟩)).setCell (by show w.heap.size ≤ w.heap.size; omega) (.int .i64 0) (p := ⟨w.heap.size, 2, none⟩)).setCell (by show w.heap.size ≤ w.heap.size; omega) (.int .i64 0) (p := ⟨w.heap.size, 3, none⟩)).setCell (by show w.heap.size ≤ w.heap.size; omega) (.int .i64 0) (p := ⟨w.heap.size, 4, none⟩)).setCell (by show w.heap.size ≤ w.heap.size; omega) (.slice none 0 0) (p := ⟨w.heap.size, 5, none⟩)).setCell (by show w.heap.size ≤ w.heap.size; omega) (.slice none 0 0) (p := ⟨w.heap.size, 6, none⟩)).setCell (by show w.heap.size ≤ w.heap.size; omega) (.slice none 0 0) (p := ⟨w.heap.size, 7, none⟩))
    replace hF := ((((((((hF.far' (p := ⟨w.heap.size, 0, none⟩) (by show _ ≠ w.heap.size; omega) (.slice none 0 0)).far' (p := ⟨w.heap.size, 1, none⟩) (by show _ ≠ w.heap.size; omega) (.slice none 0 0)).far' (p := ⟨w.heap.size, 2, none⟩) (by show _ ≠ w.heap.size; omega) (.int .i64 0)).far' (p := ⟨w.heap.size, 3, none⟩) (by show _ ≠ w.heap.size; omega) (.int .i64 0)).far' (p := ⟨w.heap.size, 4, none⟩) (by show _ ≠ w.heap.size; omega) (.int .i64 0)).far' (p := ⟨w.heap.size, 5, none⟩) (by show _ ≠ w.heap.size; omega) (.slice none 0 0)).far' (p := ⟨w.heap.size, 6, none⟩) (by show _ ≠ w.heap.size; omega) (.slice none 0 0)).far' (p := ⟨w.heap.size, 7, none⟩) (by show _ ≠ w.heap.size; omega) (.slice none 0 0))
    replace hZ : Blk (World.setCell (World.setCell (World.setCell (World.setCell (World.setCell (World.setCell (World.setCell (World.setCell w4 ⟨w.heap.size, 0, none⟩ (.slice none 0 0)) ⟨w.heap.size, 1, none⟩ (.slice none 0 0)) ⟨w.heap.size, 2, none⟩ (.int .i64 0)) ⟨w.heap.size, 3, none⟩ (.int .i64 0)) ⟨w.heap.size, 4, none⟩ (.int .i64 0)) ⟨w.heap.size, 5, none⟩ (.slice none 0 0)) ⟨w.heap.size, 6, none⟩ (.slice none 0 0)) ⟨w.heap.size, 7, none⟩ (.slice none 0 0)) (w.heap.size) 40 #[.slice none 0 0, .slice none 0 0, .int .i64 0, .int .i64 0, .int .i64 0, .slice none 0 0, .slice none 0 0, .slice none 0 0] := ((((((((hZ.set_ 0 (.slice none 0 0)).set_ 1 (.slice none 0 0)).set_ 2 (.int .i64 0)).set_ 3 (.int .i64 0)).set_ 4 (.int .i64 0)).set_ 5 (.slice none 0 0)).set_ 6 (.slice none 0 0)).set_ 7 (.slice none 0 0))
    have szW9 : ((World.setCell (World.setCell (World.setCell (World.setCell (World.setCell (World.setCell (World.setCell (World.setCell w4 ⟨w.heap.size, 0, none⟩ (.slice none 0 0)) ⟨w.heap.size, 1, none⟩ (.slice none 0 0)) ⟨w.heap.size, 2, none⟩ (.int .i64 0)) ⟨w.heap.size, 3, none⟩ (.int .i64 0)) ⟨w.heap.size, 4, none⟩ (.int .i64 0)) ⟨w.heap.size, 5, none⟩ (.slice none 0 0)) ⟨w.heap.size, 6, none⟩ (.slice none 0 0)) ⟨w.heap.size, 7, none⟩ (.slice none 0 0))).heap.size = w4.heap.size := by simp [World.setCell]
    generalize World.setCell (World.setCell (World.setCell (World.setCell (World.setCell (World.setCell (World.setCell (World.setCell w4 ⟨w.heap.size, 0, none⟩ (.slice none 0 0)) ⟨w.heap.size, 1, none⟩ (.slice none 0 0)) ⟨w.heap.size, 2, none⟩ (.int .i64 0)) ⟨w.heap.size, 3, none⟩ (.int .i64 0)) ⟨w.heap.size, 4, none⟩ (.int .i64 0)) ⟨w.heap.size, 5, none⟩ (.slice none 0 0)) ⟨w.heap.size, 6, none⟩ (.slice none 0 0)) ⟨w.heap.size, 7, none⟩ (.slice none 0 0) = W9 at *
    have f0 := (hF.cell 0).trans (show _ = some (.int .i64 tu) from rfl)
    have f1 := (hF.cell 1).trans (show _ = some (.int .i64 se) from rfl)
    have f2 := (hF.cell 2).trans (show _ = some (.int .i64 0) from rfl)
    have f3 := (hF.cell 3).trans (show _ = some (.slice none 0 0) from rfl)
    have f4 := (hF.cell 4).trans (show _ = some (.slice none 0 0) from rfl)
    have z0 := (hZ.cell 0).trans (show _ = some (.slice none 0 0) from rfl)
    have z1 := (hZ.cell 1).trans (show _ = some (.slice none 0 0) from rfl)
    have z2 := (hZ.cell 2).trans (show _ = some (.int .i64 0) from rfl)
    have z3 := (hZ.cell 3).trans (show _ = some (.int .i64 0) from rfl)
    have z4 := (hZ.cell 4).trans (show _ = some (.int .i64 0) from rfl)
    have z5 := (hZ.cell 5).trans (show _ = some (.slice none 0 0) from rfl)
    have z6 := (hZ.cell 6).trans (show _ = some (.slice none 0 0) from rfl)
    have z7 := (hZ.cell 7).trans (show _ = some (.slice none 0 0) from rfl)
    refine bodyPost_ret (v := .tuple #[.agg #[.slice none 0 0, .slice none 0 0, .int .i64 0, .int .i64 0, .int .i64 0, .slice none 0 0, .slice none 0 0, .slice none 0 0], .bool false]) (by simp [results, Try.results24, go_sem, z0, z1, z2, z3, z4, z5, z6, z7]) rfl ?_
    rw [nmM_no HB2.out, HB2.out]
    exact ⟨none, 0, none, 0, none, 0, none, 0, none, 0, rfl, OwnV.nil, OwnV.nil, OwnV.nil, OwnV.nil, OwnV.nil, apart_one5 _, HB⟩
  · have HN := Lib.hid hnf
    have HV := Lib.hid hrb
    have HB2 : Hid (nmB rs tu se = true) := Lib.hid (by simp [nmB, hnf, hrb])
    clear hnf hrb
    go_enter Try.func24, Try.ntmps24
    go_upto_region 1 with fail
    have hq1 : Below w.heap.size w (World.alloc w (.cells #[.slice none 0 0, .slice none 0 0, .int .i64 0, .int .i64 0, .int .i64 0, .slice none 0 0, .slice none 0 0, .slice none 0 0] 40)) := bl1 w _
    have hZ : Blk (World.alloc w (.cells #[.slice none 0 0, .slice none 0 0, .int .i64 0, .int .i64 0, .int .i64 0, .slice none 0 0, .slice none 0 0, .slice none 0 0] 40)) (w.heap.size) 40 #[.slice none 0 0, .slice none 0 0, .int .i64 0, .int .i64 0, .int .i64 0, .slice none 0 0, .slice none 0 0, .slice none 0 0] := by repeat (first | exact Blk.new _ _ _ | exact Blk.new2 _ _ _ _ | exact Blk.new3 _ _ _ _ _ | exact Blk.new4 _ _ _ _ _ _ | refine Blk.alloc ?_ _)
    replace hR := hR.below hq1
    generalize World.alloc w (.cells #[.slice none 0 0, .slice none 0 0, .int .i64 0, .int .i64 0, .int .i64 0, .slice none 0 0, .slice none 0 0, .slice none 0 0] 40) = wX at *
    have HB := hq1
    have z0 := (hZ.cell 0).trans (show _ = some (.slice none 0 0) from rfl)
    have z1 := (hZ.cell 1).trans (show _ = some (.slice none 0 0) from rfl)
    have z2 := (hZ.cell 2).trans (show _ = some (.int .i64 0) from rfl)
    have z3 := (hZ.cell 3).trans (show _ = some (.int .i64 0) from rfl)
    have z4 := (hZ.cell 4).trans (show _ = some (.int .i64 0) from rfl)
    have z5 := (hZ.cell 5).trans (show _ = some (.slice none 0 0) from rfl)
    have z6 := (hZ.cell 6).trans (show _ = some (.slice none 0 0) from rfl)
    have z7 := (hZ.cell 7).trans (show _ = some (.slice none 0 0) from rfl)
    have hz0' := hZ.lt
    go_wp2_with fail
    refine (iNewFloorT_is tu se HN.out _).mono ?_
    rintro e w2 ⟨rfl, hb2⟩
    have hq2 : Below wX.heap.size wX w2 := bth (by repeat (first | exact Below.refl _ _ | refine Below.alloc ?_ (by first | exact Nat.le_refl _ | (simp <;> omega)) _ | refine Below.setCell ?_ (by first | exact Nat.le_refl _ | (simp <;> omega)) _)) hb2
    replace HB := bth HB hq2
    replace hR := hR.below hq2
    replace hZ := hZ.below hq2 hZ.lt
    replace z0 := (hZ.cell 0).trans (show _ = some (.slice none 0 0) from rfl)
    replace z1 := (hZ.cell 1).trans (show _ = some (.slice none 0 0) from rfl)
    replace z2 := (hZ.cell 2).trans (show _ = some (.int .i64 0) from rfl)
    replace z3 := (hZ.cell 3).trans (show _ = some (.int .i64 0) from rfl)
    replace z4 := (hZ.cell 4).trans (show _ = some (.int .i64 0) from rfl)
    replace z5 := (hZ.cell 5).trans (show _ = some (.slice none 0 0) from rfl)
    replace z6 := (hZ.cell 6).trans (show _ = some (.slice none 0 0) from rfl)
    replace z7 := (hZ.cell 7).trans (show _ = some (.slice none 0 0) from rfl)
    have zq2 := hq2.size
    go_upto_region 2 with fail
    have hq3 : Below w2.heap.size w2 (World.alloc w2 (.cells #[.int .i64 tu, .int .i64 se, .int .i64 0, .slice none 0 0, .slice none 0 0] 37)) := bl1 w2 _
    have hF : Blk (World.alloc w2 (.cells #[.int .i64 tu, .int .i64 se, .int .i64 0, .slice none 0 0, .slice none 0 0] 37)) (w2.heap.size) 37 #[.int .i64 tu, .int .i64 se, .int .i64 0, .slice none 0 0, .slice none 0 0] := by repeat (first | exact Blk.new _ _ _ | exact Blk.new2 _ _ _ _ | exact Blk.new3 _ _ _ _ _ | exact Blk.new4 _ _ _ _ _ _ | refine Blk.alloc ?_ _)
    replace hR := hR.below hq3
    generalize World.alloc w2 (.cells #[.int .i64 tu, .int .i64 se, .int .i64 0, .slice none 0 0, .slice none 0 0] 37) = wF at *
    replace HB := bth HB hq3
    have f0 := (hF.cell 0).trans (show _ = some (.int .i64 tu) from rfl)
    have f1 := (hF.cell 1).trans (show _ = some (.int .i64 se) from rfl)
    have f2 := (hF.cell 2).trans (show _ = some (.int .i64 0) from rfl)
    have f3 := (hF.cell 3).trans (show _ = some (.slice none 0 0) from rfl)
    have f4 := (hF.cell 4).trans (show _ = some (.slice none 0 0) from rfl)
    replace hZ := hZ.below hq3 hZ.lt
    clear z0 z1 z2 z3 z4 z5 z6 z7
    have z0 := (hZ.cell 0).trans (show _ = some (.slice none 0 0) from rfl)
    have z1 := (hZ.cell 1).trans (show _ = some (.slice none 0 0) from rfl)
    have z2 := (hZ.cell 2).trans (show _ = some (.int .i64 0) from rfl)
    have z3 := (hZ.cell 3).trans (show _ = some (.int .i64 0) from rfl)
    have z4 := (hZ.cell 4).trans (show _ = some (.int .i64 0) from rfl)
    have z5 := (hZ.cell 5).trans (show _ = some (.slice none 0 0) from rfl)
    have z6 := (hZ.cell 6).trans (show _ = some (.slice none 0 0) from rfl)
    have z7 := (hZ.cell 7).trans (show _ = some (.slice none 0 0) from rfl)
    go_wp2_with fail
    refine (isValidRules_is A c rs hn kc _ HV.out _ (hR.below (by repeat (first | exact Below.refl _ _ | refine Below.alloc ?_ (by first | exact Nat.le_refl _ | (simp <;> omega)) _ | refine Below.setCell ?_ (by first | exact Nat.le_refl _ | (simp <;> omega)) _)))).mono ?_
    rintro e w4 ⟨rfl, hb4⟩
    have hq4 : Below wF.heap.size wF w4 := bth (by repeat (first | exact Below.refl _ _ | refine Below.alloc ?_ (by first | exact Nat.le_refl _ | (simp <;> omega)) _ | refine Below.setCell ?_ (by first | exact Nat.le_refl _ | (simp <;> omega)) _)) hb4
    replace HB := bth HB hq4
    replace hR := hR.below hq4
    replace hF := hF.below hq4 hF.lt
    replace f0 := (hF.cell 0).trans (show _ = some (.int .i64 tu) from rfl)
    replace f1 := (hF.cell 1).trans (show _ = some (.int .i64 se) from rfl)
    replace f2 := (hF.cell 2).trans (show _ = some (.int .i64 0) from rfl)
    replace f3 := (hF.cell 3).trans (show _ = some (.slice none 0 0) from rfl)
    replace f4 := (hF.cell 4).trans (show _ = some (.slice none 0 0) from rfl)
    replace hZ := hZ.below hq4 hZ.lt
    replace z0 := (hZ.cell 0).trans (show _ = some (.slice none 0 0) from rfl)
    replace z1 := (hZ.cell 1).trans (show _ = some (.slice none 0 0) from rfl)
    replace z2 := (hZ.cell 2).trans (show _ = some (.int .i64 0) from rfl)
    replace z3 := (hZ.cell 3).trans (show _ = some (.int .i64 0) from rfl)
    replace z4 := (hZ.cell 4).trans (show _ = some (.int .i64 0) from rfl)
    replace z5 := (hZ.cell 5).trans (show _ = some (.slice none 0 0) from rfl)
    replace z6 := (hZ.cell 6).trans (show _ = some (.slice none 0 0) from rfl)
    replace z7 := (hZ.cell 7).trans (show _ = some (.slice none 0 0) from rfl)
    have hs2 := hZ.lt
    have hs3 := HB.size
    have hA := HNA.out
    obtain ⟨CC5, hCC5⟩ : ∃ X : World → Prop, ∀ V, X V ↔ (Below w.heap.size w V ∧ Blk V (w2.heap.size) 37 #[.int .i64 tu, .int .i64 se, .int .i64 0, .slice none 0 0, .slice none 0 0]) := ⟨_, fun _ => Iff.rfl⟩
    have HCC5 := Lib.hid hCC5; clear hCC5
    haveI : Nonempty (Hld CC5) := ⟨⟨w4, ((HCC5.out _).2 ⟨HB, hF⟩)⟩⟩
    clear f0 f1 f2 f3 f4
    clear z0 z1 z2 z3 z4 z5 z6 z7
    have f0 := fun K : Hld CC5 => (((HCC5.out _).1 K.holds).2.cell 0).trans (show _ = some (.int .i64 tu) from rfl)
    have f1 := fun K : Hld CC5 => (((HCC5.out _).1 K.holds).2.cell 1).trans (show _ = some (.int .i64 se) from rfl)
    have f2 := fun K : Hld CC5 => (((HCC5.out _).1 K.holds).2.cell 2).trans (show _ = some (.int .i64 0) from rfl)
    have f3 := fun K : Hld CC5 => (((HCC5.out _).1 K.holds).2.cell 3).trans (show _ = some (.slice none 0 0) from rfl)
    have f4 := fun K : Hld CC5 => (((HCC5.out _).1 K.holds).2.cell 4).trans (show _ = some (.slice none 0 0) from rfl)
    go_wp2
    refine wp_region_mk (nmS rs 88) CC5 [([], 0), ([1], 2)] [3, 4] [([], 5)] [6] (by kernel_rfl) (by kernel_rfl) ((HCC5.out _).2 ⟨HB.drew, hF⟩) (fun W W' h k => ((HCC5.out _).2 ⟨((HCC5.out _).1 h).1.trans (k.mono ((HCC5.out _).1 h).1.size), ((HCC5.out _).1 h).2.below k ((HCC5.out _).1 h).2.lt⟩)) ?_
    intro σ
    refine wpMk1_cons (some 24) rfl (.slice (some ⟨(σ 0).1, 0, none⟩) 0 0) rfl fun K1 hK1 => ?_
    change wpQuiet _ _ _ _ ([]) _
    refine wpQuiet_nil ?_
    refine ⟨fun k hpar => ?_, hK1 _ ?_⟩
    · change wpList _ _ _ (_ :: []) _ _
      go_wp2
      exact Nrm_mk ⟨(_, 0), rfl, bl1 _ _, rfl, Blk.new _ _ _⟩
    simp only [Act.put]
    go_simp
    refine wpMk1_cons (some 26) rfl (.slice (some ⟨(σ 2).1, 0, none⟩) rs.length (σ 2).2) rfl fun K1 hK1 => ?_
    change wpQuiet _ _ _ _ (_ :: []) _
    repeat (go_big_quiet_step (fail))
    refine wpQuiet_nil ?_
    refine ⟨fun k hpar => ?_, hK1 _ ?_⟩
    · change wpList _ _ _ (_ :: []) _ _
      obtain ⟨U0, U, hU1, ⟨hU2, hU4⟩, hU5⟩ := hpar 0 (by simp [nmS])
      have hU6 := hU4.below hU5 hU4.lt
      have HUR := Lib.hid (HR0.out.below ((HCC5.out _).1 k.holds).1)
      have HU6 := Lib.hid hU6
      clear hU6 hU4 hU2 hU1 hU5 hpar
      go_wp2_with ((at_builtin; refine wpList_appO rfl _ _ 33 rfl (σ 0).1 88 i0 _ 7 48 Try.underlying33 hi hz0 hz1 hz2 rfl (by decide) Rul.cells rul_len rul_one (σ 0).1 rfl HU6.out (Nat.le_refl _) A c rs rfl HUR.out hA (by unfold maxLen; omega) (by omega) ?_; intro g' c' w' hO' hb'))
      first | exact Nrm_mk ⟨(g', c'), rfl, hb', hO'⟩ | exact Nrm_mk ⟨g', c', rfl, hb', hO'⟩
    simp only [Act.put]
    go_simp
    refine wpMk1_last ?_
    change wpQuiet _ _ _ _ (_ :: _ :: []) _
    repeat (go_big_quiet_step (fail))
    refine wpQuiet_nil ?_
    intro V0 V W hM hW
    have hO9 : OwnV (σ 0).1 88 7 Rul.cells (V 2) (.slice (some ⟨(σ 2).1, 0, none⟩) rs.length (σ 2).2) rs := hM.post 2 (by simp)
    obtain ⟨p0e, _⟩ : (V0 0).heap.size = (σ 0).1 ∧ Blk (V 0) (σ 0).1 88 #[] := hM.post 0 (by simp)
    have hp0 := (hM.from0 0 (by simp)).size
    have hO := (hO9.later (hM.later 2 (by simp))).base (B' := w4.heap.size) (by rw [← p0e]; exact hp0)
    clear f0 f1 f2 f3 f4
    have hq6 : Below w4.heap.size w4 W := bth (by repeat (first | exact Below.refl _ _ | refine Below.alloc ?_ (by first | exact Nat.le_refl _ | (simp <;> omega)) _ | refine Below.setCell ?_ (by first | exact Nat.le_refl _ | (simp <;> omega)) _)) (hM.whole 2 (by simp)).undrew
    replace HB := bth HB hq6
    replace hR := hR.below hq6
    replace hF := hF.below hq6 hF.lt
    have f0 := (hF.cell 0).trans (show _ = some (.int .i64 tu) from rfl)
    have f1 := (hF.cell 1).trans (show _ = some (.int .i64 se) from rfl)
    have f2 := (hF.cell 2).trans (show _ = some (.int .i64 0) from rfl)
    have f3 := (hF.cell 3).trans (show _ = some (.slice none 0 0) from rfl)
    have f4 := (hF.cell 4).trans (show _ = some (.slice none 0 0) from rfl)
    replace hZ := hZ.below hq6 hZ.lt
    have z0 := (hZ.cell 0).trans (show _ = some (.slice none 0 0) from rfl)
    have z1 := (hZ.cell 1).trans (show _ = some (.slice none 0 0) from rfl)
    have z2 := (hZ.cell 2).trans (show _ = some (.int .i64 0) from rfl)
    have z3 := (hZ.cell 3).trans (show _ = some (.int .i64 0) from rfl)
    have z4 := (hZ.cell 4).trans (show _ = some (.int .i64 0) from rfl)
    have z5 := (hZ.cell 5).trans (show _ = some (.slice none 0 0) from rfl)
    have z6 := (hZ.cell 6).trans (show _ = some (.slice none 0 0) from rfl)
    have z7 := (hZ.cell 7).trans (show _ = some (.slice none 0 0) from rfl)
    clear hM hO9 hp0 p0e hW
    generalize σ 0 = p0 at *
    generalize σ 2 = p2 at *
    obtain ⟨g9, c9⟩ := p2
    refine wpMix_cons fun K2 hK2 => ?_
    change wpQuiet _ _ _ _ ([]) _
    refine wpQuiet_nil ?_
    change wpList _ _ _ (_ :: []) _ _
    have fhZ0 := hZ.frozen 0
    have fhZ1 := hZ.frozen 1
    have fhZ2 := hZ.frozen 2
    have fhZ3 := hZ.frozen 3
    have fhZ4 := hZ.frozen 4
    have fhZ5 := hZ.frozen 5
    have fhZ6 := hZ.frozen 6
    have fhZ7 := hZ.frozen 7
    have yhF := hF.lt
    have yhZ := hZ.lt
    go_wp2
    clear f0 f1 f2 f3 f4 z0 z1 z2 z3 z4 z5 z6 z7
    replace HB : Below w.heap.size w (World.setCell (World.setCell (World.setCell (World.setCell (World.setCell (World.setCell (World.setCell (World.setCell W ⟨w.heap.size, 0, none⟩ (.slice (some ⟨g9, 0, none⟩) rs.length c9)) ⟨w.heap.size, 1, none⟩ (.slice none 0 0)) ⟨w.heap.size, 2, none⟩ (.int .i64 tu)) ⟨w.heap.size, 3, none⟩ (.int .i64 se)) ⟨w.heap.size, 4, none⟩ (.int .i64 0)) ⟨w.heap.size, 5, none⟩ (.slice none 0 0)) ⟨w.heap.size, 6, none⟩ (.slice none 0 0)) ⟨w.heap.size, 7, none⟩ (.slice none 0 0)) := ((((((((HB.setCell (by show w.heap.size ≤ w.heap.size; omega) (.slice (some ⟨g9, 0, none⟩) rs.length c9) (p := ⟨w.heap.size, 0, none⟩)).setCell (by show w.heap.size ≤ w.heap.size; omega) (.slice none 0 0) (p := ⟨w.heap.size, 1, none⟩)).setCell (by show w.heap.size ≤ w.heap.size; omega) (.int .i64 tu) (p := ⟨w.heap.size, 2, none⟩)).setCell (by show w.heap.size ≤ w.heap.size; omega) (.int .i64 se) (p := ⟨w.heap.size, 3, none⟩)).setCell (by show w.heap.size ≤ w.heap.size; omega) (.int .i64 0) (p := ⟨w.heap.size, 4, none⟩)).setCell (by show w.heap.size ≤ w.heap.size; omega) (.slice none 0 0) (p := ⟨w.heap.size, 5, none⟩)).setCell (by show w.heap.size ≤ w.heap.size; omega) (.slice none 0 0) (p := ⟨w.heap.size, 6, none⟩)).setCell (by show w.heap.size ≤ w.heap.size; omega) (.slice none 0 0) (p := ⟨w.heap.size, 7, none⟩))
    replace hF := ((((((((hF.far' (p := ⟨w.heap.size, 0, none⟩) (by show _ ≠ w.heap.size; omega) (.slice (some ⟨g9, 0, none⟩) rs.length c9)).far' (p := ⟨w.heap.size, 1, none⟩) (by show _ ≠ w.heap.size; omega) (.slice none 0 0)).far' (p := ⟨w.heap.size, 2, none⟩) (by show _ ≠ w.heap.size; omega) (.int .i64 tu)).far' (p := ⟨w.heap.size, 3, none⟩) (by show _ ≠ w.heap.size; omega) (.int .i64 se)).far' (p := ⟨w.heap.size, 4, none⟩) (by show _ ≠ w.heap.size; omega) (.int .i64 0)).far' (p := ⟨w.heap.size, 5, none⟩) (by show _ ≠ w.heap.size; omega) (.slice none 0 0)).far' (p := ⟨w.heap.size, 6, none⟩) (by show _ ≠ w.heap.size; omega) (.slice none 0 0)).far' (p := ⟨w.heap.size, 7, none⟩) (by show _ ≠ w.heap.size; omega) (.slice none 0 0))
    replace hZ : Blk (World.setCell (World.setCell (World.setCell (World.setCell (World.setCell (World.setCell (World.setCell (World.setCell W ⟨w.heap.size, 0, none⟩ (.slice (some ⟨g9, 0, none⟩) rs.length c9)) ⟨w.heap.size, 1, none⟩ (.slice none 0 0)) ⟨w.heap.size, 2, none⟩ (.int .i64 tu)) ⟨w.heap.size, 3, none⟩ (.int .i64 se)) ⟨w.heap.size, 4, none⟩ (.int .i64 0)) ⟨w.heap.size, 5, none⟩ (.slice none 0 0)) ⟨w.heap.size, 6, none⟩ (.slice none 0 0)) ⟨w.heap.size, 7, none⟩ (.slice none 0 0)) (w.heap.size) 40 #[.slice (some ⟨g9, 0, none⟩) rs.length c9, .slice none 0 0, .int .i64 tu, .int .i64 se, .int .i64 0, .slice none 0 0, .slice none 0 0, .slice none 0 0] := ((((((((hZ.set_ 0 (.slice (some ⟨g9, 0, none⟩) rs.length c9)).set_ 1 (.slice none 0 0)).set_ 2 (.int .i64 tu)).set_ 3 (.int .i64 se)).set_ 4 (.int .i64 0)).set_ 5 (.slice none 0 0)).set_ 6 (.slice none 0 0)).set_ 7 (.slice none 0 0))
    have gRW3 : World.grownBy W (World.setCell (World.setCell (World.setCell (World.setCell (World.setCell (World.setCell (World.setCell (World.setCell W ⟨w.heap.size, 0, none⟩ (.slice (some ⟨g9, 0, none⟩) rs.length c9)) ⟨w.heap.size, 1, none⟩ (.slice none 0 0)) ⟨w.heap.size, 2, none⟩ (.int .i64 tu)) ⟨w.heap.size, 3, none⟩ (.int .i64 se)) ⟨w.heap.size, 4, none⟩ (.int .i64 0)) ⟨w.heap.size, 5, none⟩ (.slice none 0 0)) ⟨w.heap.size, 6, none⟩ (.slice none 0 0)) ⟨w.heap.size, 7, none⟩ (.slice none 0 0)) (some (w.heap.size)) := (grown_set (j := 7) (grown_set (j := 6) (grown_set (j := 5) (grown_set (j := 4) (grown_set (j := 3) (grown_set (j := 2) (grown_set (j := 1) (grown_set (j := 0) (grown_refl W (some (w.heap.size))) (.slice (some ⟨g9, 0, none⟩) rs.length c9)) (.slice none 0 0)) (.int .i64 tu)) (.int .i64 se)) (.int .i64 0)) (.slice none 0 0)) (.slice none 0 0)) (.slice none 0 0))
    have szW3 : ((World.setCell (World.setCell (World.setCell (World.setCell (World.setCell (World.setCell (World.setCell (World.setCell W ⟨w.heap.size, 0, none⟩ (.slice (some ⟨g9, 0, none⟩) rs.length c9)) ⟨w.heap.size, 1, none⟩ (.slice none 0 0)) ⟨w.heap.size, 2, none⟩ (.int .i64 tu)) ⟨w.heap.size, 3, none⟩ (.int .i64 se)) ⟨w.heap.size, 4, none⟩ (.int .i64 0)) ⟨w.heap.size, 5, none⟩ (.slice none 0 0)) ⟨w.heap.size, 6, none⟩ (.slice none 0 0)) ⟨w.heap.size, 7, none⟩ (.slice none 0 0))).heap.size = W.heap.size := by simp [World.setCell]
    generalize World.setCell (World.setCell (World.setCell (World.setCell (World.setCell (World.setCell (World.setCell (World.setCell W ⟨w.heap.size, 0, none⟩ (.slice (some ⟨g9, 0, none⟩) rs.length c9)) ⟨w.heap.size, 1, none⟩ (.slice none 0 0)) ⟨w.heap.size, 2, none⟩ (.int .i64 tu)) ⟨w.heap.size, 3, none⟩ (.int .i64 se)) ⟨w.heap.size, 4, none⟩ (.int .i64 0)) ⟨w.heap.size, 5, none⟩ (.slice none 0 0)) ⟨w.heap.size, 6, none⟩ (.slice none 0 0)) ⟨w.heap.size, 7, none⟩ (.slice none 0 0) = W3 at *
    replace hO := hO.kept gRW3 (fun k hk e => by have h1 := (hO.lt k hk); have h2 : k = w.heap.size := (Option.some.inj e); first | (clear gRW3; omega) | exact absurd h2 (nehO k hk))
    have f0 := (hF.cell 0).trans (show _ = some (.int .i64 tu) from rfl)
    have f1 := (hF.cell 1).trans (show _ = some (.int .i64 se) from rfl)
    have f2 := (hF.cell 2).trans (show _ = some (.int .i64 0) from rfl)
    have f3 := (hF.cell 3).trans (show _ = some (.slice none 0 0) from rfl)
    have f4 := (hF.cell 4).trans (show _ = some (.slice none 0 0) from rfl)
    have z0 := (hZ.cell 0).trans (show _ = some (.slice (some ⟨g9, 0, none⟩) rs.length c9) from rfl)
    have z1 := (hZ.cell 1).trans (show _ = some (.slice none 0 0) from rfl)
    have z2 := (hZ.cell 2).trans (show _ = some (.int .i64 tu) from rfl)
    have z3 := (hZ.cell 3).trans (show _ = some (.int .i64 se) from rfl)
    have z4 := (hZ.cell 4).trans (show _ = some (.int .i64 0) from rfl)
    have z5 := (hZ.cell 5).trans (show _ = some (.slice none 0 0) from rfl)
    have z6 := (hZ.cell 6).trans (show _ = some (.slice none 0 0) from rfl)
    have z7 := (hZ.cell 7).trans (show _ = some (.slice none 0 0) from rfl)
    refine Nrm_intro (((HCC5.out _).2 ⟨HB, hF⟩)) (hK2 _ _ ?_)
    refine wpMix_last ?_
    change wpQuiet _ _ _ _ (_ :: []) _
    repeat (go_big_quiet_step (fail))
    refine wpQuiet_nil ?_
    go_wp2
    refine bodyPost_ret (v := .tuple #[.agg #[.slice (some ⟨g9, 0, none⟩) rs.length c9, .slice none 0 0, .int .i64 tu, .int .i64 se, .int .i64 0, .slice none 0 0, .slice none 0 0, .slice none 0 0], .bool true]) (by simp [results, Try.results24, go_sem, z0, z1, z2, z3, z4, z5, z6, z7]) rfl ?_
    rw [nmM_yes HB2.out, HB2.out]
    exact ⟨some ⟨g9, 0, none⟩, c9, none, 0, none, 0, none, 0, none, 0, rfl, hO.base (by omega), OwnV.nil, OwnV.nil, OwnV.nil, OwnV.nil, apart_one5 _, HB⟩
set_option maxHeartbeats 4000000 in
set_option maxRecDepth 100000 in
theorem sNewMeeting_is (A : Option Addr) (c : Nat) (rs : List Rul) (hn : rs.length ≤ 1048576) (tu se : Int) (w : World) (hR : Rds 7 Rul.cells w A rs) (hA : A = none → rs = [] ∧ c = 0) (kc : rs.length ≤ c) :
  Calls Try.prog 22 #[.slice A rs.length c, .int .i64 tu, .int .i64 se] w fun e w' => ∃ D0 d0 D1 d1 D2 d2 D3 d3 D4 d4, e = .returned (.tuple #[.agg #[.slice D0 (nmM rs tu se).rules.length d0, .slice D1 (nmM rs tu se).pend.length d1, .int .i64 (nmM rs tu se).turns, .int .i64 (nmM rs tu se).secs, .int .i64 (nmM rs tu se).spk, .slice D2 (nmM rs tu se).wait.length d2, .slice D3 (nmM rs tu se).shares.length d3, .slice D4 (nmM rs tu se).outs.length d4], .bool (nmB rs tu se)]) ∧ OwnV w.heap.size 88 7 Rul.cells w' (.slice D0 (nmM rs tu se).rules.length d0) (nmM rs tu se).rules ∧ OwnV w.heap.size 90 3 Que.cells w' (.slice D1 (nmM rs tu se).pend.length d1) (nmM rs tu se).pend ∧ OwnV w.heap.size 3 1 intC w' (.slice D2 (nmM rs tu se).wait.length d2) (nmM rs tu se).wait ∧ OwnV w.heap.size 114 3 Sha.cells w' (.slice D3 (nmM rs tu se).shares.length d3) (nmM rs tu se).shares ∧ OwnV w.heap.size 81 3 Out.cells w' (.slice D4 (nmM rs tu se).outs.length d4) (nmM rs tu se).outs ∧ Apart [.slice D0 (nmM rs tu se).rules.length d0, .slice D1 (nmM rs tu se).pend.length d1, .slice D2 (nmM rs tu se).wait.length d2, .slice D3 (nmM rs tu se).shares.length d3, .slice D4 (nmM rs tu se).outs.length d4] ∧ Below w.heap.size w w' := by
  obtain ⟨i0, hi, hz0, hz1, hz2⟩ := info_parts info_Rul
  have HR0 := Lib.hid hR
  have HNA := Lib.hid hA
  clear hA
  cases hrb : rulesB rs
  · have HV := Lib.hid hrb
    have HB2 : Hid (nmB rs tu se = false) := Lib.hid (by simp [nmB, hrb])
    clear hrb
    cases hnf : nfB tu se
    · have HN := Lib.hid hnf
      clear hnf
      go_enter Try.func22, Try.ntmps22
      go_upto_region 1 with fail
      have hq1 : Below w.heap.size w (World.alloc w (.cells #[.slice none 0 0, .slice none 0 0, .int .i64 0, .int .i64 0, .int .i64 0, .slice none 0 0, .slice none 0 0, .slice none 0 0] 40)) := bl1 w _
      have hZ : Blk (World.alloc w (.cells #[.slice none 0 0, .slice none 0 0, .int .i64 0, .int .i64 0, .int .i64 0, .slice none 0 0, .slice none 0 0, .slice none 0 0] 40)) (w.heap.size) 40 #[.slice none 0 0, .slice none 0 0, .int .i64 0, .int .i64 0, .int .i64 0, .slice none 0 0, .slice none 0 0, .slice none 0 0] := by repeat (first | exact Blk.new _ _ _ | exact Blk.new2 _ _ _ _ | exact Blk.new3 _ _ _ _ _ | exact Blk.new4 _ _ _ _ _ _ | refine Blk.alloc ?_ _)
      replace hR := hR.below hq1
      generalize World.alloc w (.cells #[.slice none 0 0, .slice none 0 0, .int .i64 0, .int .i64 0, .int .i64 0, .slice none 0 0, .slice none 0 0, .slice none 0 0] 40) = wX at *
      have HB := hq1
      have z0 := (hZ.cell 0).trans (show _ = some (.slice none 0 0) from rfl)
      have z1 := (hZ.cell 1).trans (show _ = some (.slice none 0 0) from rfl)
      have z2 := (hZ.cell 2).trans (show _ = some (.int .i64 0) from rfl)
      have z3 := (hZ.cell 3).trans (show _ = some (.int .i64 0) from rfl)
      have z4 := (hZ.cell 4).trans (show _ = some (.int .i64 0) from rfl)
      have z5 := (hZ.cell 5).trans (show _ = some (.slice none 0 0) from rfl)
      have z6 := (hZ.cell 6).trans (show _ = some (.slice none 0 0) from rfl)
      have z7 := (hZ.cell 7).trans (show _ = some (.slice none 0 0) from rfl)
      have hz0' := hZ.lt
      go_wp2_with fail
      refine (sNewFloorF_is tu se HN.out _).mono ?_
      rintro e w2 ⟨rfl, hb2⟩
      have hq2 : Below wX.heap.size wX w2 := bth (by repeat (first | exact Below.refl _ _ | refine Below.alloc ?_ (by first | exact Nat.le_refl _ | (simp <;> omega)) _ | refine Below.setCell ?_ (by first | exact Nat.le_refl _ | (simp <;> omega)) _)) hb2
      replace HB := bth HB hq2
      replace hR := hR.below hq2
      replace hZ := hZ.below hq2 hZ.lt
      replace z0 := (hZ.cell 0).trans (show _ = some (.slice none 0 0) from rfl)
      replace z1 := (hZ.cell 1).trans (show _ = some (.slice none 0 0) from rfl)
      replace z2 := (hZ.cell 2).trans (show _ = some (.int .i64 0) from rfl)
      replace z3 := (hZ.cell 3).trans (show _ = some (.int .i64 0) from rfl)
      replace z4 := (hZ.cell 4).trans (show _ = some (.int .i64 0) from rfl)
      replace z5 := (hZ.cell 5).trans (show _ = some (.slice none 0 0) from rfl)
      replace z6 := (hZ.cell 6).trans (show _ = some (.slice none 0 0) from rfl)
      replace z7 := (hZ.cell 7).trans (show _ = some (.slice none 0 0) from rfl)
      have zq2 := hq2.size
      go_upto_region 2 with fail
      have hq3 : Below w2.heap.size w2 (World.alloc w2 (.cells #[.int .i64 0, .int .i64 0, .int .i64 0, .slice none 0 0, .slice none 0 0] 37)) := bl1 w2 _
      have hF : Blk (World.alloc w2 (.cells #[.int .i64 0, .int .i64 0, .int .i64 0, .slice none 0 0, .slice none 0 0] 37)) (w2.heap.size) 37 #[.int .i64 0, .int .i64 0, .int .i64 0, .slice none 0 0, .slice none 0 0] := by repeat (first | exact Blk.new _ _ _ | exact Blk.new2 _ _ _ _ | exact Blk.new3 _ _ _ _ _ | exact Blk.new4 _ _ _ _ _ _ | refine Blk.alloc ?_ _)
      replace hR := hR.below hq3
      generalize World.alloc w2 (.cells #[.int .i64 0, .int .i64 0, .int .i64 0, .slice none 0 0, .slice none 0 0] 37) = wF at *
      replace HB := bth HB hq3
      have f0 := (hF.cell 0).trans (show _ = some (.int .i64 0) from rfl)
      have f1 := (hF.cell 1).trans (show _ = some (.int .i64 0) from rfl)
      have f2 := (hF.cell 2).trans (show _ = some (.int .i64 0) from rfl)
      have f3 := (hF.cell 3).trans (show _ = some (.slice none 0 0) from rfl)
      have f4 := (hF.cell 4).trans (show _ = some (.slice none 0 0) from rfl)
      replace hZ := hZ.below hq3 hZ.lt
      clear z0 z1 z2 z3 z4 z5 z6 z7
      have z0 := (hZ.cell 0).trans (show _ = some (.slice none 0 0) from rfl)
      have z1 := (hZ.cell 1).trans (show _ = some (.slice none 0 0) from rfl)
      have z2 := (hZ.cell 2).trans (show _ = some (.int .i64 0) from rfl)
      have z3 := (hZ.cell 3).trans (show _ = some (.int .i64 0) from rfl)
      have z4 := (hZ.cell 4).trans (show _ = some (.int .i64 0) from rfl)
      have z5 := (hZ.cell 5).trans (show _ = some (.slice none 0 0) from rfl)
      have z6 := (hZ.cell 6).trans (show _ = some (.slice none 0 0) from rfl)
      have z7 := (hZ.cell 7).trans (show _ = some (.slice none 0 0) from rfl)
      go_wp2_with fail
      refine (l2Good_is A c rs hn _ HV.out _ (hR.below (by repeat (first | exact Below.refl _ _ | refine Below.alloc ?_ (by first | exact Nat.le_refl _ | (simp <;> omega)) _ | refine Below.setCell ?_ (by first | exact Nat.le_refl _ | (simp <;> omega)) _)))).mono ?_
      rintro e w4 ⟨rfl, hb4⟩
      have hq4 : Below wF.heap.size wF w4 := bth (by repeat (first | exact Below.refl _ _ | refine Below.alloc ?_ (by first | exact Nat.le_refl _ | (simp <;> omega)) _ | refine Below.setCell ?_ (by first | exact Nat.le_refl _ | (simp <;> omega)) _)) hb4
      replace HB := bth HB hq4
      replace hR := hR.below hq4
      replace hF := hF.below hq4 hF.lt
      replace f0 := (hF.cell 0).trans (show _ = some (.int .i64 0) from rfl)
      replace f1 := (hF.cell 1).trans (show _ = some (.int .i64 0) from rfl)
      replace f2 := (hF.cell 2).trans (show _ = some (.int .i64 0) from rfl)
      replace f3 := (hF.cell 3).trans (show _ = some (.slice none 0 0) from rfl)
      replace f4 := (hF.cell 4).trans (show _ = some (.slice none 0 0) from rfl)
      replace hZ := hZ.below hq4 hZ.lt
      replace z0 := (hZ.cell 0).trans (show _ = some (.slice none 0 0) from rfl)
      replace z1 := (hZ.cell 1).trans (show _ = some (.slice none 0 0) from rfl)
      replace z2 := (hZ.cell 2).trans (show _ = some (.int .i64 0) from rfl)
      replace z3 := (hZ.cell 3).trans (show _ = some (.int .i64 0) from rfl)
      replace z4 := (hZ.cell 4).trans (show _ = some (.int .i64 0) from rfl)
      replace z5 := (hZ.cell 5).trans (show _ = some (.slice none 0 0) from rfl)
      replace z6 := (hZ.cell 6).trans (show _ = some (.slice none 0 0) from rfl)
      replace z7 := (hZ.cell 7).trans (show _ = some (.slice none 0 0) from rfl)
      have fhZ0 := hZ.frozen 0
      have fhZ1 := hZ.frozen 1
      have fhZ2 := hZ.frozen 2
      have fhZ3 := hZ.frozen 3
      have fhZ4 := hZ.frozen 4
      have fhZ5 := hZ.frozen 5
      have fhZ6 := hZ.frozen 6
      have fhZ7 := hZ.frozen 7
      have yhF := hF.lt
      have yhZ := hZ.lt
      go_wp2
      clear f0 f1 f2 f3 f4 z0 z1 z2 z3 z4 z5 z6 z7
      replace HB : Below w.heap.size w (World.setCell (World.setCell (World.setCell (World.setCell (World.setCell (World.setCell (World.setCell (World.setCell w4 ⟨w.heap.size, 0, none⟩ (.slice none 0 0)) ⟨w.heap.size, 1, none⟩ (.slice none 0 0)) ⟨w.heap.size, 2, none⟩ (.int .i64 0)) ⟨w.heap.size, 3, none⟩ (.int .i64 0)) ⟨w.heap.size, 4, none⟩ (.int .i64 0)) ⟨w.heap.size, 5, none⟩ (.slice none 0 0)) ⟨w.heap.size, 6, none⟩ (.slice none 0 0)) ⟨w.heap.size, 7, none⟩ (.slice none 0 0)) := ((((((((HB.setCell (by show w.heap.size ≤ w.heap.size; omega) (.slice none 0 0) (p := ⟨w.heap.size, 0, none⟩)).setCell (by show w.heap.size ≤ w.heap.size; omega) (.slice none 0 0) (p := ⟨w.heap.size, 1, none⟩)).setCell (by show w.heap.size ≤ w.heap.size; omega) (.int .i64 0) (p := ⟨w.heap.size, 2, none⟩)).setCell (by show w.heap.size ≤ w.heap.size; omega) (.int .i64 0) (p := ⟨w.heap.size, 3, none⟩)).setCell (by show w.heap.size ≤ w.heap.size; omega) (.int .i64 0) (p := ⟨w.heap.size, 4, none⟩)).setCell (by show w.heap.size ≤ w.heap.size; omega) (.slice none 0 0) (p := ⟨w.heap.size, 5, none⟩)).setCell (by show w.heap.size ≤ w.heap.size; omega) (.slice none 0 0) (p := ⟨w.heap.size, 6, none⟩)).setCell (by show w.heap.size ≤ w.heap.size; omega) (.slice none 0 0) (p := ⟨w.heap.size, 7, none⟩))
      replace hF := ((((((((hF.far' (p := ⟨w.heap.size, 0, none⟩) (by show _ ≠ w.heap.size; omega) (.slice none 0 0)).far' (p := ⟨w.heap.size, 1, none⟩) (by show _ ≠ w.heap.size; omega) (.slice none 0 0)).far' (p := ⟨w.heap.size, 2, none⟩) (by show _ ≠ w.heap.size; omega) (.int .i64 0)).far' (p := ⟨w.heap.size, 3, none⟩) (by show _ ≠ w.heap.size; omega) (.int .i64 0)).far' (p := ⟨w.heap.size, 4, none⟩) (by show _ ≠ w.heap.size; omega) (.int .i64 0)).far' (p := ⟨w.heap.size, 5, none⟩) (by show _ ≠ w.heap.size; omega) (.slice none 0 0)).far' (p := ⟨w.heap.size, 6, none⟩) (by show _ ≠ w.heap.size; omega) (.slice none 0 0)).far' (p := ⟨w.heap.size, 7, none⟩) (by show _ ≠ w.heap.size; omega) (.slice none 0 0))
      replace hZ : Blk (World.setCell (World.setCell (World.setCell (World.setCell (World.setCell (World.setCell (World.setCell (World.setCell w4 ⟨w.heap.size, 0, none⟩ (.slice none 0 0)) ⟨w.heap.size, 1, none⟩ (.slice none 0 0)) ⟨w.heap.size, 2, none⟩ (.int .i64 0)) ⟨w.heap.size, 3, none⟩ (.int .i64 0)) ⟨w.heap.size, 4, none⟩ (.int .i64 0)) ⟨w.heap.size, 5, none⟩ (.slice none 0 0)) ⟨w.heap.size, 6, none⟩ (.slice none 0 0)) ⟨w.heap.size, 7, none⟩ (.slice none 0 0)) (w.heap.size) 40 #[.slice none 0 0, .slice none 0 0, .int .i64 0, .int .i64 0, .int .i64 0, .slice none 0 0, .slice none 0 0, .slice none 0 0] := ((((((((hZ.set_ 0 (.slice none 0 0)).set_ 1 (.slice none 0 0)).set_ 2 (.int .i64 0)).set_ 3 (.int .i64 0)).set_ 4 (.int .i64 0)).set_ 5 (.slice none 0 0)).set_ 6 (.slice none 0 0)).set_ 7 (.slice none 0 0))
      have szW9 : ((World.setCell (World.setCell (World.setCell (World.setCell (World.setCell (World.setCell (World.setCell (World.setCell w4 ⟨w.heap.size, 0, none⟩ (.slice none 0 0)) ⟨w.heap.size, 1, none⟩ (.slice none 0 0)) ⟨w.heap.size, 2, none⟩ (.int .i64 0)) ⟨w.heap.size, 3, none⟩ (.int .i64 0)) ⟨w.heap.size, 4, none⟩ (.int .i64 0)) ⟨w.heap.size, 5, none⟩ (.slice none 0 0)) ⟨w.heap.size, 6, none⟩ (.slice none 0 0)) ⟨w.heap.size, 7, none⟩ (.slice none 0 0))).heap.size = w4.heap.size := by simp [World.setCell]
      generalize World.setCell (World.setCell (World.setCell (World.setCell (World.setCell (World.setCell (World.setCell (World.setCell w4 ⟨w.heap.size, 0, none⟩ (.slice none 0 0)) ⟨w.heap.size, 1, none⟩ (.slice none 0 0)) ⟨w.heap.size, 2, none⟩ (.int .i64 0)) ⟨w.heap.size, 3, none⟩ (.int .i64 0)) ⟨w.heap.size, 4, none⟩ (.int .i64 0)) ⟨w.heap.size, 5, none⟩ (.slice none 0 0)) ⟨w.heap.size, 6, none⟩ (.slice none 0 0)) ⟨w.heap.size, 7, none⟩ (.slice none 0 0) = W9 at *
      have f0 := (hF.cell 0).trans (show _ = some (.int .i64 0) from rfl)
      have f1 := (hF.cell 1).trans (show _ = some (.int .i64 0) from rfl)
      have f2 := (hF.cell 2).trans (show _ = some (.int .i64 0) from rfl)
      have f3 := (hF.cell 3).trans (show _ = some (.slice none 0 0) from rfl)
      have f4 := (hF.cell 4).trans (show _ = some (.slice none 0 0) from rfl)
      have z0 := (hZ.cell 0).trans (show _ = some (.slice none 0 0) from rfl)
      have z1 := (hZ.cell 1).trans (show _ = some (.slice none 0 0) from rfl)
      have z2 := (hZ.cell 2).trans (show _ = some (.int .i64 0) from rfl)
      have z3 := (hZ.cell 3).trans (show _ = some (.int .i64 0) from rfl)
      have z4 := (hZ.cell 4).trans (show _ = some (.int .i64 0) from rfl)
      have z5 := (hZ.cell 5).trans (show _ = some (.slice none 0 0) from rfl)
      have z6 := (hZ.cell 6).trans (show _ = some (.slice none 0 0) from rfl)
      have z7 := (hZ.cell 7).trans (show _ = some (.slice none 0 0) from rfl)
      refine bodyPost_ret (v := .tuple #[.agg #[.slice none 0 0, .slice none 0 0, .int .i64 0, .int .i64 0, .int .i64 0, .slice none 0 0, .slice none 0 0, .slice none 0 0], .bool false]) (by simp [results, Try.results22, go_sem, z0, z1, z2, z3, z4, z5, z6, z7]) rfl ?_
      rw [nmM_no HB2.out, HB2.out]
      exact ⟨none, 0, none, 0, none, 0, none, 0, none, 0, rfl, OwnV.nil, OwnV.nil, OwnV.nil, OwnV.nil, OwnV.nil, apart_one5 _, HB⟩
    · have HN := Lib.hid hnf
      clear hnf
      go_enter Try.func22, Try.ntmps22
      go_upto_region 1 with fail
      have hq1 : Below w.heap.size w (World.alloc w (.cells #[.slice none 0 0, .slice none 0 0, .int .i64 0, .int .i64 0, .int .i64 0, .slice none 0 0, .slice none 0 0, .slice none 0 0] 40)) := bl1 w _
      have hZ : Blk (World.alloc w (.cells #[.slice none 0 0, .slice none 0 0, .int .i64 0, .int .i64 0, .int .i64 0, .slice none 0 0, .slice none 0 0, .slice none 0 0] 40)) (w.heap.size) 40 #[.slice none 0 0, .slice none 0 0, .int .i64 0, .int .i64 0, .int .i64 0, .slice none 0 0, .slice none 0 0, .slice none 0 0] := by repeat (first | exact Blk.new _ _ _ | exact Blk.new2 _ _ _ _ | exact Blk.new3 _ _ _ _ _ | exact Blk.new4 _ _ _ _ _ _ | refine Blk.alloc ?_ _)
      replace hR := hR.below hq1
      generalize World.alloc w (.cells #[.slice none 0 0, .slice none 0 0, .int .i64 0, .int .i64 0, .int .i64 0, .slice none 0 0, .slice none 0 0, .slice none 0 0] 40) = wX at *
      have HB := hq1
      have z0 := (hZ.cell 0).trans (show _ = some (.slice none 0 0) from rfl)
      have z1 := (hZ.cell 1).trans (show _ = some (.slice none 0 0) from rfl)
      have z2 := (hZ.cell 2).trans (show _ = some (.int .i64 0) from rfl)
      have z3 := (hZ.cell 3).trans (show _ = some (.int .i64 0) from rfl)
      have z4 := (hZ.cell 4).trans (show _ = some (.int .i64 0) from rfl)
      have z5 := (hZ.cell 5).trans (show _ = some (.slice none 0 0) from rfl)
      have z6 := (hZ.cell 6).trans (show _ = some (.slice none 0 0) from rfl)
      have z7 := (hZ.cell 7).trans (show _ = some (.slice none 0 0) from rfl)
      have hz0' := hZ.lt
      go_wp2_with fail
      refine (sNewFloorT_is tu se HN.out _).mono ?_
      rintro e w2 ⟨rfl, hb2⟩
      have hq2 : Below wX.heap.size wX w2 := bth (by repeat (first | exact Below.refl _ _ | refine Below.alloc ?_ (by first | exact Nat.le_refl _ | (simp <;> omega)) _ | refine Below.setCell ?_ (by first | exact Nat.le_refl _ | (simp <;> omega)) _)) hb2
      replace HB := bth HB hq2
      replace hR := hR.below hq2
      replace hZ := hZ.below hq2 hZ.lt
      replace z0 := (hZ.cell 0).trans (show _ = some (.slice none 0 0) from rfl)
      replace z1 := (hZ.cell 1).trans (show _ = some (.slice none 0 0) from rfl)
      replace z2 := (hZ.cell 2).trans (show _ = some (.int .i64 0) from rfl)
      replace z3 := (hZ.cell 3).trans (show _ = some (.int .i64 0) from rfl)
      replace z4 := (hZ.cell 4).trans (show _ = some (.int .i64 0) from rfl)
      replace z5 := (hZ.cell 5).trans (show _ = some (.slice none 0 0) from rfl)
      replace z6 := (hZ.cell 6).trans (show _ = some (.slice none 0 0) from rfl)
      replace z7 := (hZ.cell 7).trans (show _ = some (.slice none 0 0) from rfl)
      have zq2 := hq2.size
      go_upto_region 2 with fail
      have hq3 : Below w2.heap.size w2 (World.alloc w2 (.cells #[.int .i64 tu, .int .i64 se, .int .i64 0, .slice none 0 0, .slice none 0 0] 37)) := bl1 w2 _
      have hF : Blk (World.alloc w2 (.cells #[.int .i64 tu, .int .i64 se, .int .i64 0, .slice none 0 0, .slice none 0 0] 37)) (w2.heap.size) 37 #[.int .i64 tu, .int .i64 se, .int .i64 0, .slice none 0 0, .slice none 0 0] := by repeat (first | exact Blk.new _ _ _ | exact Blk.new2 _ _ _ _ | exact Blk.new3 _ _ _ _ _ | exact Blk.new4 _ _ _ _ _ _ | refine Blk.alloc ?_ _)
      replace hR := hR.below hq3
      generalize World.alloc w2 (.cells #[.int .i64 tu, .int .i64 se, .int .i64 0, .slice none 0 0, .slice none 0 0] 37) = wF at *
      replace HB := bth HB hq3
      have f0 := (hF.cell 0).trans (show _ = some (.int .i64 tu) from rfl)
      have f1 := (hF.cell 1).trans (show _ = some (.int .i64 se) from rfl)
      have f2 := (hF.cell 2).trans (show _ = some (.int .i64 0) from rfl)
      have f3 := (hF.cell 3).trans (show _ = some (.slice none 0 0) from rfl)
      have f4 := (hF.cell 4).trans (show _ = some (.slice none 0 0) from rfl)
      replace hZ := hZ.below hq3 hZ.lt
      clear z0 z1 z2 z3 z4 z5 z6 z7
      have z0 := (hZ.cell 0).trans (show _ = some (.slice none 0 0) from rfl)
      have z1 := (hZ.cell 1).trans (show _ = some (.slice none 0 0) from rfl)
      have z2 := (hZ.cell 2).trans (show _ = some (.int .i64 0) from rfl)
      have z3 := (hZ.cell 3).trans (show _ = some (.int .i64 0) from rfl)
      have z4 := (hZ.cell 4).trans (show _ = some (.int .i64 0) from rfl)
      have z5 := (hZ.cell 5).trans (show _ = some (.slice none 0 0) from rfl)
      have z6 := (hZ.cell 6).trans (show _ = some (.slice none 0 0) from rfl)
      have z7 := (hZ.cell 7).trans (show _ = some (.slice none 0 0) from rfl)
      go_wp2_with fail
      refine (l2Good_is A c rs hn _ HV.out _ (hR.below (by repeat (first | exact Below.refl _ _ | refine Below.alloc ?_ (by first | exact Nat.le_refl _ | (simp <;> omega)) _ | refine Below.setCell ?_ (by first | exact Nat.le_refl _ | (simp <;> omega)) _)))).mono ?_
      rintro e w4 ⟨rfl, hb4⟩
      have hq4 : Below wF.heap.size wF w4 := bth (by repeat (first | exact Below.refl _ _ | refine Below.alloc ?_ (by first | exact Nat.le_refl _ | (simp <;> omega)) _ | refine Below.setCell ?_ (by first | exact Nat.le_refl _ | (simp <;> omega)) _)) hb4
      replace HB := bth HB hq4
      replace hR := hR.below hq4
      replace hF := hF.below hq4 hF.lt
      replace f0 := (hF.cell 0).trans (show _ = some (.int .i64 tu) from rfl)
      replace f1 := (hF.cell 1).trans (show _ = some (.int .i64 se) from rfl)
      replace f2 := (hF.cell 2).trans (show _ = some (.int .i64 0) from rfl)
      replace f3 := (hF.cell 3).trans (show _ = some (.slice none 0 0) from rfl)
      replace f4 := (hF.cell 4).trans (show _ = some (.slice none 0 0) from rfl)
      replace hZ := hZ.below hq4 hZ.lt
      replace z0 := (hZ.cell 0).trans (show _ = some (.slice none 0 0) from rfl)
      replace z1 := (hZ.cell 1).trans (show _ = some (.slice none 0 0) from rfl)
      replace z2 := (hZ.cell 2).trans (show _ = some (.int .i64 0) from rfl)
      replace z3 := (hZ.cell 3).trans (show _ = some (.int .i64 0) from rfl)
      replace z4 := (hZ.cell 4).trans (show _ = some (.int .i64 0) from rfl)
      replace z5 := (hZ.cell 5).trans (show _ = some (.slice none 0 0) from rfl)
      replace z6 := (hZ.cell 6).trans (show _ = some (.slice none 0 0) from rfl)
      replace z7 := (hZ.cell 7).trans (show _ = some (.slice none 0 0) from rfl)
      have fhZ0 := hZ.frozen 0
      have fhZ1 := hZ.frozen 1
      have fhZ2 := hZ.frozen 2
      have fhZ3 := hZ.frozen 3
      have fhZ4 := hZ.frozen 4
      have fhZ5 := hZ.frozen 5
      have fhZ6 := hZ.frozen 6
      have fhZ7 := hZ.frozen 7
      have yhF := hF.lt
      have yhZ := hZ.lt
      go_wp2
      clear f0 f1 f2 f3 f4 z0 z1 z2 z3 z4 z5 z6 z7
      replace HB : Below w.heap.size w (World.setCell (World.setCell (World.setCell (World.setCell (World.setCell (World.setCell (World.setCell (World.setCell w4 ⟨w.heap.size, 0, none⟩ (.slice none 0 0)) ⟨w.heap.size, 1, none⟩ (.slice none 0 0)) ⟨w.heap.size, 2, none⟩ (.int .i64 0)) ⟨w.heap.size, 3, none⟩ (.int .i64 0)) ⟨w.heap.size, 4, none⟩ (.int .i64 0)) ⟨w.heap.size, 5, none⟩ (.slice none 0 0)) ⟨w.heap.size, 6, none⟩ (.slice none 0 0)) ⟨w.heap.size, 7, none⟩ (.slice none 0 0)) := ((((((((HB.setCell (by show w.heap.size ≤ w.heap.size; omega) (.slice none 0 0) (p := ⟨w.heap.size, 0, none⟩)).setCell (by show w.heap.size ≤ w.heap.size; omega) (.slice none 0 0) (p := ⟨w.heap.size, 1, none⟩)).setCell (by show w.heap.size ≤ w.heap.size; omega) (.int .i64 0) (p := ⟨w.heap.size, 2, none⟩)).setCell (by show w.heap.size ≤ w.heap.size; omega) (.int .i64 0) (p := ⟨w.heap.size, 3, none⟩)).setCell (by show w.heap.size ≤ w.heap.size; omega) (.int .i64 0) (p := ⟨w.heap.size, 4, none⟩)).setCell (by show w.heap.size ≤ w.heap.size; omega) (.slice none 0 0) (p := ⟨w.heap.size, 5, none⟩)).setCell (by show w.heap.size ≤ w.heap.size; omega) (.slice none 0 0) (p := ⟨w.heap.size, 6, none⟩)).setCell (by show w.heap.size ≤ w.heap.size; omega) (.slice none 0 0) (p := ⟨w.heap.size, 7, none⟩))
      replace hF := ((((((((hF.far' (p := ⟨w.heap.size, 0, none⟩) (by show _ ≠ w.heap.size; omega) (.slice none 0 0)).far' (p := ⟨w.heap.size, 1, none⟩) (by show _ ≠ w.heap.size; omega) (.slice none 0 0)).far' (p := ⟨w.heap.size, 2, none⟩) (by show _ ≠ w.heap.size; omega) (.int .i64 0)).far' (p := ⟨w.heap.size, 3, none⟩) (by show _ ≠ w.heap.size; omega) (.int .i64 0)).far' (p := ⟨w.heap.size, 4, none⟩) (by show _ ≠ w.heap.size; omega) (.int .i64 0)).far' (p := ⟨w.heap.size, 5, none⟩) (by show _ ≠ w.heap.size; omega) (.slice none 0 0)).far' (p := ⟨w.heap.size, 6, none⟩) (by show _ ≠ w.heap.size; omega) (.slice none 0 0)).far' (p := ⟨w.heap.size, 7, none⟩) (by show _ ≠ w.heap.size; omega) (.slice none 0 0))
      replace hZ : Blk (World.setCell (World.setCell (World.setCell (World.setCell (World.setCell (World.setCell (World.setCell (World.setCell w4 ⟨w.heap.size, 0, none⟩ (.slice none 0 0)) ⟨w.heap.size, 1, none⟩ (.slice none 0 0)) ⟨w.heap.size, 2, none⟩ (.int .i64 0)) ⟨w.heap.size, 3, none⟩ (.int .i64 0)) ⟨w.heap.size, 4, none⟩ (.int .i64 0)) ⟨w.heap.size, 5, none⟩ (.slice none 0 0)) ⟨w.heap.size, 6, none⟩ (.slice none 0 0)) ⟨w.heap.size, 7, none⟩ (.slice none 0 0)) (w.heap.size) 40 #[.slice none 0 0, .slice none 0 0, .int .i64 0, .int .i64 0, .int .i64 0, .slice none 0 0, .slice none 0 0, .slice none 0 0] := ((((((((hZ.set_ 0 (.slice none 0 0)).set_ 1 (.slice none 0 0)).set_ 2 (.int .i64 0)).set_ 3 (.int .i64 0)).set_ 4 (.int .i64 0)).set_ 5 (.slice none 0 0)).set_ 6 (.slice none 0 0)).set_ 7 (.slice none 0 0))
      have szW9 : ((World.setCell (World.setCell (World.setCell (World.setCell (World.setCell (World.setCell (World.setCell (World.setCell w4 ⟨w.heap.size, 0, none⟩ (.slice none 0 0)) ⟨w.heap.size, 1, none⟩ (.slice none 0 0)) ⟨w.heap.size, 2, none⟩ (.int .i64 0)) ⟨w.heap.size, 3, none⟩ (.int .i64 0)) ⟨w.heap.size, 4, none⟩ (.int .i64 0)) ⟨w.heap.size, 5, none⟩ (.slice none 0 0)) ⟨w.heap.size, 6, none⟩ (.slice none 0 0)) ⟨w.heap.size, 7, none⟩ (.slice none 0 0))).heap.size = w4.heap.size := by simp [World.setCell]
      generalize World.setCell (World.setCell (World.setCell (World.setCell (World.setCell (World.setCell (World.setCell (World.setCell w4 ⟨w.heap.size, 0, none⟩ (.slice none 0 0)) ⟨w.heap.size, 1, none⟩ (.slice none 0 0)) ⟨w.heap.size, 2, none⟩ (.int .i64 0)) ⟨w.heap.size, 3, none⟩ (.int .i64 0)) ⟨w.heap.size, 4, none⟩ (.int .i64 0)) ⟨w.heap.size, 5, none⟩ (.slice none 0 0)) ⟨w.heap.size, 6, none⟩ (.slice none 0 0)) ⟨w.heap.size, 7, none⟩ (.slice none 0 0) = W9 at *
      have f0 := (hF.cell 0).trans (show _ = some (.int .i64 tu) from rfl)
      have f1 := (hF.cell 1).trans (show _ = some (.int .i64 se) from rfl)
      have f2 := (hF.cell 2).trans (show _ = some (.int .i64 0) from rfl)
      have f3 := (hF.cell 3).trans (show _ = some (.slice none 0 0) from rfl)
      have f4 := (hF.cell 4).trans (show _ = some (.slice none 0 0) from rfl)
      have z0 := (hZ.cell 0).trans (show _ = some (.slice none 0 0) from rfl)
      have z1 := (hZ.cell 1).trans (show _ = some (.slice none 0 0) from rfl)
      have z2 := (hZ.cell 2).trans (show _ = some (.int .i64 0) from rfl)
      have z3 := (hZ.cell 3).trans (show _ = some (.int .i64 0) from rfl)
      have z4 := (hZ.cell 4).trans (show _ = some (.int .i64 0) from rfl)
      have z5 := (hZ.cell 5).trans (show _ = some (.slice none 0 0) from rfl)
      have z6 := (hZ.cell 6).trans (show _ = some (.slice none 0 0) from rfl)
      have z7 := (hZ.cell 7).trans (show _ = some (.slice none 0 0) from rfl)
      refine bodyPost_ret (v := .tuple #[.agg #[.slice none 0 0, .slice none 0 0, .int .i64 0, .int .i64 0, .int .i64 0, .slice none 0 0, .slice none 0 0, .slice none 0 0], .bool false]) (by simp [results, Try.results22, go_sem, z0, z1, z2, z3, z4, z5, z6, z7]) rfl ?_
      rw [nmM_no HB2.out, HB2.out]
      exact ⟨none, 0, none, 0, none, 0, none, 0, none, 0, rfl, OwnV.nil, OwnV.nil, OwnV.nil, OwnV.nil, OwnV.nil, apart_one5 _, HB⟩
  cases hnf : nfB tu se
  · have HN := Lib.hid hnf
    have HV := Lib.hid hrb
    have HB2 : Hid (nmB rs tu se = false) := Lib.hid (by simp [nmB, hnf])
    clear hnf hrb
    go_enter Try.func22, Try.ntmps22
    go_upto_region 1 with fail
    have hq1 : Below w.heap.size w (World.alloc w (.cells #[.slice none 0 0, .slice none 0 0, .int .i64 0, .int .i64 0, .int .i64 0, .slice none 0 0, .slice none 0 0, .slice none 0 0] 40)) := bl1 w _
    have hZ : Blk (World.alloc w (.cells #[.slice none 0 0, .slice none 0 0, .int .i64 0, .int .i64 0, .int .i64 0, .slice none 0 0, .slice none 0 0, .slice none 0 0] 40)) (w.heap.size) 40 #[.slice none 0 0, .slice none 0 0, .int .i64 0, .int .i64 0, .int .i64 0, .slice none 0 0, .slice none 0 0, .slice none 0 0] := by repeat (first | exact Blk.new _ _ _ | exact Blk.new2 _ _ _ _ | exact Blk.new3 _ _ _ _ _ | exact Blk.new4 _ _ _ _ _ _ | refine Blk.alloc ?_ _)
    replace hR := hR.below hq1
    generalize World.alloc w (.cells #[.slice none 0 0, .slice none 0 0, .int .i64 0, .int .i64 0, .int .i64 0, .slice none 0 0, .slice none 0 0, .slice none 0 0] 40) = wX at *
    have HB := hq1
    have z0 := (hZ.cell 0).trans (show _ = some (.slice none 0 0) from rfl)
    have z1 := (hZ.cell 1).trans (show _ = some (.slice none 0 0) from rfl)
    have z2 := (hZ.cell 2).trans (show _ = some (.int .i64 0) from rfl)
    have z3 := (hZ.cell 3).trans (show _ = some (.int .i64 0) from rfl)
    have z4 := (hZ.cell 4).trans (show _ = some (.int .i64 0) from rfl)
    have z5 := (hZ.cell 5).trans (show _ = some (.slice none 0 0) from rfl)
    have z6 := (hZ.cell 6).trans (show _ = some (.slice none 0 0) from rfl)
    have z7 := (hZ.cell 7).trans (show _ = some (.slice none 0 0) from rfl)
    have hz0' := hZ.lt
    go_wp2_with fail
    refine (sNewFloorF_is tu se HN.out _).mono ?_
    rintro e w2 ⟨rfl, hb2⟩
    have hq2 : Below wX.heap.size wX w2 := bth (by repeat (first | exact Below.refl _ _ | refine Below.alloc ?_ (by first | exact Nat.le_refl _ | (simp <;> omega)) _ | refine Below.setCell ?_ (by first | exact Nat.le_refl _ | (simp <;> omega)) _)) hb2
    replace HB := bth HB hq2
    replace hR := hR.below hq2
    replace hZ := hZ.below hq2 hZ.lt
    replace z0 := (hZ.cell 0).trans (show _ = some (.slice none 0 0) from rfl)
    replace z1 := (hZ.cell 1).trans (show _ = some (.slice none 0 0) from rfl)
    replace z2 := (hZ.cell 2).trans (show _ = some (.int .i64 0) from rfl)
    replace z3 := (hZ.cell 3).trans (show _ = some (.int .i64 0) from rfl)
    replace z4 := (hZ.cell 4).trans (show _ = some (.int .i64 0) from rfl)
    replace z5 := (hZ.cell 5).trans (show _ = some (.slice none 0 0) from rfl)
    replace z6 := (hZ.cell 6).trans (show _ = some (.slice none 0 0) from rfl)
    replace z7 := (hZ.cell 7).trans (show _ = some (.slice none 0 0) from rfl)
    have zq2 := hq2.size
    go_upto_region 2 with fail
    have hq3 : Below w2.heap.size w2 (World.alloc w2 (.cells #[.int .i64 0, .int .i64 0, .int .i64 0, .slice none 0 0, .slice none 0 0] 37)) := bl1 w2 _
    have hF : Blk (World.alloc w2 (.cells #[.int .i64 0, .int .i64 0, .int .i64 0, .slice none 0 0, .slice none 0 0] 37)) (w2.heap.size) 37 #[.int .i64 0, .int .i64 0, .int .i64 0, .slice none 0 0, .slice none 0 0] := by repeat (first | exact Blk.new _ _ _ | exact Blk.new2 _ _ _ _ | exact Blk.new3 _ _ _ _ _ | exact Blk.new4 _ _ _ _ _ _ | refine Blk.alloc ?_ _)
    replace hR := hR.below hq3
    generalize World.alloc w2 (.cells #[.int .i64 0, .int .i64 0, .int .i64 0, .slice none 0 0, .slice none 0 0] 37) = wF at *
    replace HB := bth HB hq3
    have f0 := (hF.cell 0).trans (show _ = some (.int .i64 0) from rfl)
    have f1 := (hF.cell 1).trans (show _ = some (.int .i64 0) from rfl)
    have f2 := (hF.cell 2).trans (show _ = some (.int .i64 0) from rfl)
    have f3 := (hF.cell 3).trans (show _ = some (.slice none 0 0) from rfl)
    have f4 := (hF.cell 4).trans (show _ = some (.slice none 0 0) from rfl)
    replace hZ := hZ.below hq3 hZ.lt
    clear z0 z1 z2 z3 z4 z5 z6 z7
    have z0 := (hZ.cell 0).trans (show _ = some (.slice none 0 0) from rfl)
    have z1 := (hZ.cell 1).trans (show _ = some (.slice none 0 0) from rfl)
    have z2 := (hZ.cell 2).trans (show _ = some (.int .i64 0) from rfl)
    have z3 := (hZ.cell 3).trans (show _ = some (.int .i64 0) from rfl)
    have z4 := (hZ.cell 4).trans (show _ = some (.int .i64 0) from rfl)
    have z5 := (hZ.cell 5).trans (show _ = some (.slice none 0 0) from rfl)
    have z6 := (hZ.cell 6).trans (show _ = some (.slice none 0 0) from rfl)
    have z7 := (hZ.cell 7).trans (show _ = some (.slice none 0 0) from rfl)
    go_wp2_with fail
    refine (l2Good_is A c rs hn _ HV.out _ (hR.below (by repeat (first | exact Below.refl _ _ | refine Below.alloc ?_ (by first | exact Nat.le_refl _ | (simp <;> omega)) _ | refine Below.setCell ?_ (by first | exact Nat.le_refl _ | (simp <;> omega)) _)))).mono ?_
    rintro e w4 ⟨rfl, hb4⟩
    have hq4 : Below wF.heap.size wF w4 := bth (by repeat (first | exact Below.refl _ _ | refine Below.alloc ?_ (by first | exact Nat.le_refl _ | (simp <;> omega)) _ | refine Below.setCell ?_ (by first | exact Nat.le_refl _ | (simp <;> omega)) _)) hb4
    replace HB := bth HB hq4
    replace hR := hR.below hq4
    replace hF := hF.below hq4 hF.lt
    replace f0 := (hF.cell 0).trans (show _ = some (.int .i64 0) from rfl)
    replace f1 := (hF.cell 1).trans (show _ = some (.int .i64 0) from rfl)
    replace f2 := (hF.cell 2).trans (show _ = some (.int .i64 0) from rfl)
    replace f3 := (hF.cell 3).trans (show _ = some (.slice none 0 0) from rfl)
    replace f4 := (hF.cell 4).trans (show _ = some (.slice none 0 0) from rfl)
    replace hZ := hZ.below hq4 hZ.lt
    replace z0 := (hZ.cell 0).trans (show _ = some (.slice none 0 0) from rfl)
    replace z1 := (hZ.cell 1).trans (show _ = some (.slice none 0 0) from rfl)
    replace z2 := (hZ.cell 2).trans (show _ = some (.int .i64 0) from rfl)
    replace z3 := (hZ.cell 3).trans (show _ = some (.int .i64 0) from rfl)
    replace z4 := (hZ.cell 4).trans (show _ = some (.int .i64 0) from rfl)
    replace z5 := (hZ.cell 5).trans (show _ = some (.slice none 0 0) from rfl)
    replace z6 := (hZ.cell 6).trans (show _ = some (.slice none 0 0) from rfl)
    replace z7 := (hZ.cell 7).trans (show _ = some (.slice none 0 0) from rfl)
    have fhZ0 := hZ.frozen 0
    have fhZ1 := hZ.frozen 1
    have fhZ2 := hZ.frozen 2
    have fhZ3 := hZ.frozen 3
    have fhZ4 := hZ.frozen 4
    have fhZ5 := hZ.frozen 5
    have fhZ6 := hZ.frozen 6
    have fhZ7 := hZ.frozen 7
    have yhF := hF.lt
    have yhZ := hZ.lt
    go_wp2
    clear f0 f1 f2 f3 f4 z0 z1 z2 z3 z4 z5 z6 z7
    replace HB : Below w.heap.size w (World.setCell (World.setCell (World.setCell (World.setCell (World.setCell (World.setCell (World.setCell (World.setCell w4 ⟨w.heap.size, 0, none⟩ (.slice none 0 0)) ⟨w.heap.size, 1, none⟩ (.slice none 0 0)) ⟨w.heap.size, 2, none⟩ (.int .i64 0)) ⟨w.heap.size, 3, none⟩ (.int .i64 0)) ⟨w.heap.size, 4, none⟩ (.int .i64 0)) ⟨w.heap.size, 5, none⟩ (.slice none 0 0)) ⟨w.heap.size, 6, none⟩ (.slice none 0 0)) ⟨w.heap.size, 7, none⟩ (.slice none 0 0)) := ((((((((HB.setCell (by show w.heap.size ≤ w.heap.size; omega) (.slice none 0 0) (p := ⟨w.heap.size, 0, none⟩)).setCell (by show w.heap.size ≤ w.heap.size; omega) (.slice none 0 0) (p := ⟨w.heap.size, 1, none⟩)).setCell (by show w.heap.size ≤ w.heap.size; omega) (.int .i64 0) (p := ⟨w.heap.size, 2, none⟩)).setCell (by show w.heap.size ≤ w.heap.size; omega) (.int .i64 0) (p := ⟨w.heap.size, 3, none⟩)).setCell (by show w.heap.size ≤ w.heap.size; omega) (.int .i64 0) (p := ⟨w.heap.size, 4, none⟩)).setCell (by show w.heap.size ≤ w.heap.size; omega) (.slice none 0 0) (p := ⟨w.heap.size, 5, none⟩)).setCell (by show w.heap.size ≤ w.heap.size; omega) (.slice none 0 0) (p := ⟨w.heap.size, 6, none⟩)).setCell (by show w.heap.size ≤ w.heap.size; omega) (.slice none 0 0) (p := ⟨w.heap.size, 7, none⟩))
    replace hF := ((((((((hF.far' (p := ⟨w.heap.size, 0, none⟩) (by show _ ≠ w.heap.size; omega) (.slice none 0 0)).far' (p := ⟨w.heap.size, 1, none⟩) (by show _ ≠ w.heap.size; omega) (.slice none 0 0)).far' (p := ⟨w.heap.size, 2, none⟩) (by show _ ≠ w.heap.size; omega) (.int .i64 0)).far' (p := ⟨w.heap.size, 3, none⟩) (by show _ ≠ w.heap.size; omega) (.int .i64 0)).far' (p := ⟨w.heap.size, 4, none⟩) (by show _ ≠ w.heap.size; omega) (.int .i64 0)).far' (p := ⟨w.heap.size, 5, none⟩) (by show _ ≠ w.heap.size; omega) (.slice none 0 0)).far' (p := ⟨w.heap.size, 6, none⟩) (by show _ ≠ w.heap.size; omega) (.slice none 0 0)).far' (p := ⟨w.heap.size, 7, none⟩) (by show _ ≠ w.heap.size; omega) (.slice none 0 0))
    replace hZ : Blk (World.setCell (World.setCell (World.setCell (World.setCell (World.setCell (World.setCell (World.setCell (World.setCell w4 ⟨w.heap.size, 0, none⟩ (.slice none 0 0)) ⟨w.heap.size, 1, none⟩ (.slice none 0 0)) ⟨w.heap.size, 2, none⟩ (.int .i64 0)) ⟨w.heap.size, 3, none⟩ (.int .i64 0)) ⟨w.heap.size, 4, none⟩ (.int .i64 0)) ⟨w.heap.size, 5, none⟩ (.slice none 0 0)) ⟨w.heap.size, 6, none⟩ (.slice none 0 0)) ⟨w.heap.size, 7, none⟩ (.slice none 0 0)) (w.heap.size) 40 #[.slice none 0 0, .slice none 0 0, .int .i64 0, .int .i64 0, .int .i64 0, .slice none 0 0, .slice none 0 0, .slice none 0 0] := ((((((((hZ.set_ 0 (.slice none 0 0)).set_ 1 (.slice none 0 0)).set_ 2 (.int .i64 0)).set_ 3 (.int .i64 0)).set_ 4 (.int .i64 0)).set_ 5 (.slice none 0 0)).set_ 6 (.slice none 0 0)).set_ 7 (.slice none 0 0))
    have szW9 : ((World.setCell (World.setCell (World.setCell (World.setCell (World.setCell (World.setCell (World.setCell (World.setCell w4 ⟨w.heap.size, 0, none⟩ (.slice none 0 0)) ⟨w.heap.size, 1, none⟩ (.slice none 0 0)) ⟨w.heap.size, 2, none⟩ (.int .i64 0)) ⟨w.heap.size, 3, none⟩ (.int .i64 0)) ⟨w.heap.size, 4, none⟩ (.int .i64 0)) ⟨w.heap.size, 5, none⟩ (.slice none 0 0)) ⟨w.heap.size, 6, none⟩ (.slice none 0 0)) ⟨w.heap.size, 7, none⟩ (.slice none 0 0))).heap.size = w4.heap.size := by simp [World.setCell]
    generalize World.setCell (World.setCell (World.setCell (World.setCell (World.setCell (World.setCell (World.setCell (World.setCell w4 ⟨w.heap.size, 0, none⟩ (.slice none 0 0)) ⟨w.heap.size, 1, none⟩ (.slice none 0 0)) ⟨w.heap.size, 2, none⟩ (.int .i64 0)) ⟨w.heap.size, 3, none⟩ (.int .i64 0)) ⟨w.heap.size, 4, none⟩ (.int .i64 0)) ⟨w.heap.size, 5, none⟩ (.slice none 0 0)) ⟨w.heap.size, 6, none⟩ (.slice none 0 0)) ⟨w.heap.size, 7, none⟩ (.slice none 0 0) = W9 at *
    have f0 := (hF.cell 0).trans (show _ = some (.int .i64 0) from rfl)
    have f1 := (hF.cell 1).trans (show _ = some (.int .i64 0) from rfl)
    have f2 := (hF.cell 2).trans (show _ = some (.int .i64 0) from rfl)
    have f3 := (hF.cell 3).trans (show _ = some (.slice none 0 0) from rfl)
    have f4 := (hF.cell 4).trans (show _ = some (.slice none 0 0) from rfl)
    have z0 := (hZ.cell 0).trans (show _ = some (.slice none 0 0) from rfl)
    have z1 := (hZ.cell 1).trans (show _ = some (.slice none 0 0) from rfl)
    have z2 := (hZ.cell 2).trans (show _ = some (.int .i64 0) from rfl)
    have z3 := (hZ.cell 3).trans (show _ = some (.int .i64 0) from rfl)
    have z4 := (hZ.cell 4).trans (show _ = some (.int .i64 0) from rfl)
    have z5 := (hZ.cell 5).trans (show _ = some (.slice none 0 0) from rfl)
    have z6 := (hZ.cell 6).trans (show _ = some (.slice none 0 0) from rfl)
    have z7 := (hZ.cell 7).trans (show _ = some (.slice none 0 0) from rfl)
    refine bodyPost_ret (v := .tuple #[.agg #[.slice none 0 0, .slice none 0 0, .int .i64 0, .int .i64 0, .int .i64 0, .slice none 0 0, .slice none 0 0, .slice none 0 0], .bool false]) (by simp [results, Try.results22, go_sem, z0, z1, z2, z3, z4, z5, z6, z7]) rfl ?_
    rw [nmM_no HB2.out, HB2.out]
    exact ⟨none, 0, none, 0, none, 0, none, 0, none, 0, rfl, OwnV.nil, OwnV.nil, OwnV.nil, OwnV.nil, OwnV.nil, apart_one5 _, HB⟩
  · have HN := Lib.hid hnf
    have HV := Lib.hid hrb
    have HB2 : Hid (nmB rs tu se = true) := Lib.hid (by simp [nmB, hnf, hrb])
    clear hnf hrb
    go_enter Try.func22, Try.ntmps22
    go_upto_region 1 with fail
    have hq1 : Below w.heap.size w (World.alloc w (.cells #[.slice none 0 0, .slice none 0 0, .int .i64 0, .int .i64 0, .int .i64 0, .slice none 0 0, .slice none 0 0, .slice none 0 0] 40)) := bl1 w _
    have hZ : Blk (World.alloc w (.cells #[.slice none 0 0, .slice none 0 0, .int .i64 0, .int .i64 0, .int .i64 0, .slice none 0 0, .slice none 0 0, .slice none 0 0] 40)) (w.heap.size) 40 #[.slice none 0 0, .slice none 0 0, .int .i64 0, .int .i64 0, .int .i64 0, .slice none 0 0, .slice none 0 0, .slice none 0 0] := by repeat (first | exact Blk.new _ _ _ | exact Blk.new2 _ _ _ _ | exact Blk.new3 _ _ _ _ _ | exact Blk.new4 _ _ _ _ _ _ | refine Blk.alloc ?_ _)
    replace hR := hR.below hq1
    generalize World.alloc w (.cells #[.slice none 0 0, .slice none 0 0, .int .i64 0, .int .i64 0, .int .i64 0, .slice none 0 0, .slice none 0 0, .slice none 0 0] 40) = wX at *
    have HB := hq1
    have z0 := (hZ.cell 0).trans (show _ = some (.slice none 0 0) from rfl)
    have z1 := (hZ.cell 1).trans (show _ = some (.slice none 0 0) from rfl)
    have z2 := (hZ.cell 2).trans (show _ = some (.int .i64 0) from rfl)
    have z3 := (hZ.cell 3).trans (show _ = some (.int .i64 0) from rfl)
    have z4 := (hZ.cell 4).trans (show _ = some (.int .i64 0) from rfl)
    have z5 := (hZ.cell 5).trans (show _ = some (.slice none 0 0) from rfl)
    have z6 := (hZ.cell 6).trans (show _ = some (.slice none 0 0) from rfl)
    have z7 := (hZ.cell 7).trans (show _ = some (.slice none 0 0) from rfl)
    have hz0' := hZ.lt
    go_wp2_with fail
    refine (sNewFloorT_is tu se HN.out _).mono ?_
    rintro e w2 ⟨rfl, hb2⟩
    have hq2 : Below wX.heap.size wX w2 := bth (by repeat (first | exact Below.refl _ _ | refine Below.alloc ?_ (by first | exact Nat.le_refl _ | (simp <;> omega)) _ | refine Below.setCell ?_ (by first | exact Nat.le_refl _ | (simp <;> omega)) _)) hb2
    replace HB := bth HB hq2
    replace hR := hR.below hq2
    replace hZ := hZ.below hq2 hZ.lt
    replace z0 := (hZ.cell 0).trans (show _ = some (.slice none 0 0) from rfl)
    replace z1 := (hZ.cell 1).trans (show _ = some (.slice none 0 0) from rfl)
    replace z2 := (hZ.cell 2).trans (show _ = some (.int .i64 0) from rfl)
    replace z3 := (hZ.cell 3).trans (show _ = some (.int .i64 0) from rfl)
    replace z4 := (hZ.cell 4).trans (show _ = some (.int .i64 0) from rfl)
    replace z5 := (hZ.cell 5).trans (show _ = some (.slice none 0 0) from rfl)
    replace z6 := (hZ.cell 6).trans (show _ = some (.slice none 0 0) from rfl)
    replace z7 := (hZ.cell 7).trans (show _ = some (.slice none 0 0) from rfl)
    have zq2 := hq2.size
    go_upto_region 2 with fail
    have hq3 : Below w2.heap.size w2 (World.alloc w2 (.cells #[.int .i64 tu, .int .i64 se, .int .i64 0, .slice none 0 0, .slice none 0 0] 37)) := bl1 w2 _
    have hF : Blk (World.alloc w2 (.cells #[.int .i64 tu, .int .i64 se, .int .i64 0, .slice none 0 0, .slice none 0 0] 37)) (w2.heap.size) 37 #[.int .i64 tu, .int .i64 se, .int .i64 0, .slice none 0 0, .slice none 0 0] := by repeat (first | exact Blk.new _ _ _ | exact Blk.new2 _ _ _ _ | exact Blk.new3 _ _ _ _ _ | exact Blk.new4 _ _ _ _ _ _ | refine Blk.alloc ?_ _)
    replace hR := hR.below hq3
    generalize World.alloc w2 (.cells #[.int .i64 tu, .int .i64 se, .int .i64 0, .slice none 0 0, .slice none 0 0] 37) = wF at *
    replace HB := bth HB hq3
    have f0 := (hF.cell 0).trans (show _ = some (.int .i64 tu) from rfl)
    have f1 := (hF.cell 1).trans (show _ = some (.int .i64 se) from rfl)
    have f2 := (hF.cell 2).trans (show _ = some (.int .i64 0) from rfl)
    have f3 := (hF.cell 3).trans (show _ = some (.slice none 0 0) from rfl)
    have f4 := (hF.cell 4).trans (show _ = some (.slice none 0 0) from rfl)
    replace hZ := hZ.below hq3 hZ.lt
    clear z0 z1 z2 z3 z4 z5 z6 z7
    have z0 := (hZ.cell 0).trans (show _ = some (.slice none 0 0) from rfl)
    have z1 := (hZ.cell 1).trans (show _ = some (.slice none 0 0) from rfl)
    have z2 := (hZ.cell 2).trans (show _ = some (.int .i64 0) from rfl)
    have z3 := (hZ.cell 3).trans (show _ = some (.int .i64 0) from rfl)
    have z4 := (hZ.cell 4).trans (show _ = some (.int .i64 0) from rfl)
    have z5 := (hZ.cell 5).trans (show _ = some (.slice none 0 0) from rfl)
    have z6 := (hZ.cell 6).trans (show _ = some (.slice none 0 0) from rfl)
    have z7 := (hZ.cell 7).trans (show _ = some (.slice none 0 0) from rfl)
    go_wp2_with fail
    refine (l2Good_is A c rs hn _ HV.out _ (hR.below (by repeat (first | exact Below.refl _ _ | refine Below.alloc ?_ (by first | exact Nat.le_refl _ | (simp <;> omega)) _ | refine Below.setCell ?_ (by first | exact Nat.le_refl _ | (simp <;> omega)) _)))).mono ?_
    rintro e w4 ⟨rfl, hb4⟩
    have hq4 : Below wF.heap.size wF w4 := bth (by repeat (first | exact Below.refl _ _ | refine Below.alloc ?_ (by first | exact Nat.le_refl _ | (simp <;> omega)) _ | refine Below.setCell ?_ (by first | exact Nat.le_refl _ | (simp <;> omega)) _)) hb4
    replace HB := bth HB hq4
    replace hR := hR.below hq4
    replace hF := hF.below hq4 hF.lt
    replace f0 := (hF.cell 0).trans (show _ = some (.int .i64 tu) from rfl)
    replace f1 := (hF.cell 1).trans (show _ = some (.int .i64 se) from rfl)
    replace f2 := (hF.cell 2).trans (show _ = some (.int .i64 0) from rfl)
    replace f3 := (hF.cell 3).trans (show _ = some (.slice none 0 0) from rfl)
    replace f4 := (hF.cell 4).trans (show _ = some (.slice none 0 0) from rfl)
    replace hZ := hZ.below hq4 hZ.lt
    replace z0 := (hZ.cell 0).trans (show _ = some (.slice none 0 0) from rfl)
    replace z1 := (hZ.cell 1).trans (show _ = some (.slice none 0 0) from rfl)
    replace z2 := (hZ.cell 2).trans (show _ = some (.int .i64 0) from rfl)
    replace z3 := (hZ.cell 3).trans (show _ = some (.int .i64 0) from rfl)
    replace z4 := (hZ.cell 4).trans (show _ = some (.int .i64 0) from rfl)
    replace z5 := (hZ.cell 5).trans (show _ = some (.slice none 0 0) from rfl)
    replace z6 := (hZ.cell 6).trans (show _ = some (.slice none 0 0) from rfl)
    replace z7 := (hZ.cell 7).trans (show _ = some (.slice none 0 0) from rfl)
    have hs2 := hZ.lt
    have hs3 := HB.size
    have hA := HNA.out
    obtain ⟨CC5, hCC5⟩ : ∃ X : World → Prop, ∀ V, X V ↔ (Below w.heap.size w V ∧ Blk V (w2.heap.size) 37 #[.int .i64 tu, .int .i64 se, .int .i64 0, .slice none 0 0, .slice none 0 0]) := ⟨_, fun _ => Iff.rfl⟩
    have HCC5 := Lib.hid hCC5; clear hCC5
    haveI : Nonempty (Hld CC5) := ⟨⟨w4, ((HCC5.out _).2 ⟨HB, hF⟩)⟩⟩
    clear f0 f1 f2 f3 f4
    clear z0 z1 z2 z3 z4 z5 z6 z7
    have f0 := fun K : Hld CC5 => (((HCC5.out _).1 K.holds).2.cell 0).trans (show _ = some (.int .i64 tu) from rfl)
    have f1 := fun K : Hld CC5 => (((HCC5.out _).1 K.holds).2.cell 1).trans (show _ = some (.int .i64 se) from rfl)
    have f2 := fun K : Hld CC5 => (((HCC5.out _).1 K.holds).2.cell 2).trans (show _ = some (.int .i64 0) from rfl)
    have f3 := fun K : Hld CC5 => (((HCC5.out _).1 K.holds).2.cell 3).trans (show _ = some (.slice none 0 0) from rfl)
    have f4 := fun K : Hld CC5 => (((HCC5.out _).1 K.holds).2.cell 4).trans (show _ = some (.slice none 0 0) from rfl)
    go_wp2
    refine wp_region_mk (nmS rs 88) CC5 [([], 0), ([1], 2)] [3, 4] [([], 5)] [6] (by kernel_rfl) (by kernel_rfl) ((HCC5.out _).2 ⟨HB.drew, hF⟩) (fun W W' h k => ((HCC5.out _).2 ⟨((HCC5.out _).1 h).1.trans (k.mono ((HCC5.out _).1 h).1.size), ((HCC5.out _).1 h).2.below k ((HCC5.out _).1 h).2.lt⟩)) ?_
    intro σ
    refine wpMk1_cons (some 24) rfl (.slice (some ⟨(σ 0).1, 0, none⟩) 0 0) rfl fun K1 hK1 => ?_
    change wpQuiet _ _ _ _ ([]) _
    refine wpQuiet_nil ?_
    refine ⟨fun k hpar => ?_, hK1 _ ?_⟩
    · change wpList _ _ _ (_ :: []) _ _
      go_wp2
      exact Nrm_mk ⟨(_, 0), rfl, bl1 _ _, rfl, Blk.new _ _ _⟩
    simp only [Act.put]
    go_simp
    refine wpMk1_cons (some 26) rfl (.slice (some ⟨(σ 2).1, 0, none⟩) rs.length (σ 2).2) rfl fun K1 hK1 => ?_
    change wpQuiet _ _ _ _ (_ :: []) _
    repeat (go_big_quiet_step (fail))
    refine wpQuiet_nil ?_
    refine ⟨fun k hpar => ?_, hK1 _ ?_⟩
    · change wpList _ _ _ (_ :: []) _ _
      obtain ⟨U0, U, hU1, ⟨hU2, hU4⟩, hU5⟩ := hpar 0 (by simp [nmS])
      have hU6 := hU4.below hU5 hU4.lt
      have HUR := Lib.hid (HR0.out.below ((HCC5.out _).1 k.holds).1)
      have HU6 := Lib.hid hU6
      clear hU6 hU4 hU2 hU1 hU5 hpar
      go_wp2_with ((at_builtin; refine wpList_appO rfl _ _ 33 rfl (σ 0).1 88 i0 _ 7 48 Try.underlying33 hi hz0 hz1 hz2 rfl (by decide) Rul.cells rul_len rul_one (σ 0).1 rfl HU6.out (Nat.le_refl _) A c rs rfl HUR.out hA (by unfold maxLen; omega) (by omega) ?_; intro g' c' w' hO' hb'))
      first | exact Nrm_mk ⟨(g', c'), rfl, hb', hO'⟩ | exact Nrm_mk ⟨g', c', rfl, hb', hO'⟩
    simp only [Act.put]
    go_simp
    refine wpMk1_last ?_
    change wpQuiet _ _ _ _ (_ :: _ :: []) _
    repeat (go_big_quiet_step (fail))
    refine wpQuiet_nil ?_
    intro V0 V W hM hW
    have hO9 : OwnV (σ 0).1 88 7 Rul.cells (V 2) (.slice (some ⟨(σ 2).1, 0, none⟩) rs.length (σ 2).2) rs := hM.post 2 (by simp)
    obtain ⟨p0e, _⟩ : (V0 0).heap.size = (σ 0).1 ∧ Blk (V 0) (σ 0).1 88 #[] := hM.post 0 (by simp)
    have hp0 := (hM.from0 0 (by simp)).size
    have hO := (hO9.later (hM.later 2 (by simp))).base (B' := w4.heap.size) (by rw [← p0e]; exact hp0)
    clear f0 f1 f2 f3 f4
    have hq6 : Below w4.heap.size w4 W := bth (by repeat (first | exact Below.refl _ _ | refine Below.alloc ?_ (by first | exact Nat.le_refl _ | (simp <;> omega)) _ | refine Below.setCell ?_ (by first | exact Nat.le_refl _ | (simp <;> omega)) _)) (hM.whole 2 (by simp)).undrew
    replace HB := bth HB hq6
    replace hR := hR.below hq6
    replace hF := hF.below hq6 hF.lt
    have f0 := (hF.cell 0).trans (show _ = some (.int .i64 tu) from rfl)
    have f1 := (hF.cell 1).trans (show _ = some (.int .i64 se) from rfl)
    have f2 := (hF.cell 2).trans (show _ = some (.int .i64 0) from rfl)
    have f3 := (hF.cell 3).trans (show _ = some (.slice none 0 0) from rfl)
    have f4 := (hF.cell 4).trans (show _ = some (.slice none 0 0) from rfl)
    replace hZ := hZ.below hq6 hZ.lt
    have z0 := (hZ.cell 0).trans (show _ = some (.slice none 0 0) from rfl)
    have z1 := (hZ.cell 1).trans (show _ = some (.slice none 0 0) from rfl)
    have z2 := (hZ.cell 2).trans (show _ = some (.int .i64 0) from rfl)
    have z3 := (hZ.cell 3).trans (show _ = some (.int .i64 0) from rfl)
    have z4 := (hZ.cell 4).trans (show _ = some (.int .i64 0) from rfl)
    have z5 := (hZ.cell 5).trans (show _ = some (.slice none 0 0) from rfl)
    have z6 := (hZ.cell 6).trans (show _ = some (.slice none 0 0) from rfl)
    have z7 := (hZ.cell 7).trans (show _ = some (.slice none 0 0) from rfl)
    clear hM hO9 hp0 p0e hW
    generalize σ 0 = p0 at *
    generalize σ 2 = p2 at *
    obtain ⟨g9, c9⟩ := p2
    refine wpMix_cons fun K2 hK2 => ?_
    change wpQuiet _ _ _ _ ([]) _
    refine wpQuiet_nil ?_
    change wpList _ _ _ (_ :: []) _ _
    have fhZ0 := hZ.frozen 0
    have fhZ1 := hZ.frozen 1
    have fhZ2 := hZ.frozen 2
    have fhZ3 := hZ.frozen 3
    have fhZ4 := hZ.frozen 4
    have fhZ5 := hZ.frozen 5
    have fhZ6 := hZ.frozen 6
    have fhZ7 := hZ.frozen 7
    have yhF := hF.lt
    have yhZ := hZ.lt
    go_wp2
    clear f0 f1 f2 f3 f4 z0 z1 z2 z3 z4 z5 z6 z7
    replace HB : Below w.heap.size w (World.setCell (World.setCell (World.setCell (World.setCell (World.setCell (World.setCell (World.setCell (World.setCell W ⟨w.heap.size, 0, none⟩ (.slice (some ⟨g9, 0, none⟩) rs.length c9)) ⟨w.heap.size, 1, none⟩ (.slice none 0 0)) ⟨w.heap.size, 2, none⟩ (.int .i64 tu)) ⟨w.heap.size, 3, none⟩ (.int .i64 se)) ⟨w.heap.size, 4, none⟩ (.int .i64 0)) ⟨w.heap.size, 5, none⟩ (.slice none 0 0)) ⟨w.heap.size, 6, none⟩ (.slice none 0 0)) ⟨w.heap.size, 7, none⟩ (.slice none 0 0)) := ((((((((HB.setCell (by show w.heap.size ≤ w.heap.size; omega) (.slice (some ⟨g9, 0, none⟩) rs.length c9) (p := ⟨w.heap.size, 0, none⟩)).setCell (by show w.heap.size ≤ w.heap.size; omega) (.slice none 0 0) (p := ⟨w.heap.size, 1, none⟩)).setCell (by show w.heap.size ≤ w.heap.size; omega) (.int .i64 tu) (p := ⟨w.heap.size, 2, none⟩)).setCell (by show w.heap.size ≤ w.heap.size; omega) (.int .i64 se) (p := ⟨w.heap.size, 3, none⟩)).setCell (by show w.heap.size ≤ w.heap.size; omega) (.int .i64 0) (p := ⟨w.heap.size, 4, none⟩)).setCell (by show w.heap.size ≤ w.heap.size; omega) (.slice none 0 0) (p := ⟨w.heap.size, 5, none⟩)).setCell (by show w.heap.size ≤ w.heap.size; omega) (.slice none 0 0) (p := ⟨w.heap.size, 6, none⟩)).setCell (by show w.heap.size ≤ w.heap.size; omega) (.slice none 0 0) (p := ⟨w.heap.size, 7, none⟩))
    replace hF := ((((((((hF.far' (p := ⟨w.heap.size, 0, none⟩) (by show _ ≠ w.heap.size; omega) (.slice (some ⟨g9, 0, none⟩) rs.length c9)).far' (p := ⟨w.heap.size, 1, none⟩) (by show _ ≠ w.heap.size; omega) (.slice none 0 0)).far' (p := ⟨w.heap.size, 2, none⟩) (by show _ ≠ w.heap.size; omega) (.int .i64 tu)).far' (p := ⟨w.heap.size, 3, none⟩) (by show _ ≠ w.heap.size; omega) (.int .i64 se)).far' (p := ⟨w.heap.size, 4, none⟩) (by show _ ≠ w.heap.size; omega) (.int .i64 0)).far' (p := ⟨w.heap.size, 5, none⟩) (by show _ ≠ w.heap.size; omega) (.slice none 0 0)).far' (p := ⟨w.heap.size, 6, none⟩) (by show _ ≠ w.heap.size; omega) (.slice none 0 0)).far' (p := ⟨w.heap.size, 7, none⟩) (by show _ ≠ w.heap.size; omega) (.slice none 0 0))
    replace hZ : Blk (World.setCell (World.setCell (World.setCell (World.setCell (World.setCell (World.setCell (World.setCell (World.setCell W ⟨w.heap.size, 0, none⟩ (.slice (some ⟨g9, 0, none⟩) rs.length c9)) ⟨w.heap.size, 1, none⟩ (.slice none 0 0)) ⟨w.heap.size, 2, none⟩ (.int .i64 tu)) ⟨w.heap.size, 3, none⟩ (.int .i64 se)) ⟨w.heap.size, 4, none⟩ (.int .i64 0)) ⟨w.heap.size, 5, none⟩ (.slice none 0 0)) ⟨w.heap.size, 6, none⟩ (.slice none 0 0)) ⟨w.heap.size, 7, none⟩ (.slice none 0 0)) (w.heap.size) 40 #[.slice (some ⟨g9, 0, none⟩) rs.length c9, .slice none 0 0, .int .i64 tu, .int .i64 se, .int .i64 0, .slice none 0 0, .slice none 0 0, .slice none 0 0] := ((((((((hZ.set_ 0 (.slice (some ⟨g9, 0, none⟩) rs.length c9)).set_ 1 (.slice none 0 0)).set_ 2 (.int .i64 tu)).set_ 3 (.int .i64 se)).set_ 4 (.int .i64 0)).set_ 5 (.slice none 0 0)).set_ 6 (.slice none 0 0)).set_ 7 (.slice none 0 0))
    have gRW3 : World.grownBy W (World.setCell (World.setCell (World.setCell (World.setCell (World.setCell (World.setCell (World.setCell (World.setCell W ⟨w.heap.size, 0, none⟩ (.slice (some ⟨g9, 0, none⟩) rs.length c9)) ⟨w.heap.size, 1, none⟩ (.slice none 0 0)) ⟨w.heap.size, 2, none⟩ (.int .i64 tu)) ⟨w.heap.size, 3, none⟩ (.int .i64 se)) ⟨w.heap.size, 4, none⟩ (.int .i64 0)) ⟨w.heap.size, 5, none⟩ (.slice none 0 0)) ⟨w.heap.size, 6, none⟩ (.slice none 0 0)) ⟨w.heap.size, 7, none⟩ (.slice none 0 0)) (some (w.heap.size)) := (grown_set (j := 7) (grown_set (j := 6) (grown_set (j := 5) (grown_set (j := 4) (grown_set (j := 3) (grown_set (j := 2) (grown_set (j := 1) (grown_set (j := 0) (grown_refl W (some (w.heap.size))) (.slice (some ⟨g9, 0, none⟩) rs.length c9)) (.slice none 0 0)) (.int .i64 tu)) (.int .i64 se)) (.int .i64 0)) (.slice none 0 0)) (.slice none 0 0)) (.slice none 0 0))
    have szW3 : ((World.setCell (World.setCell (World.setCell (World.setCell (World.setCell (World.setCell (World.setCell (World.setCell W ⟨w.heap.size, 0, none⟩ (.slice (some ⟨g9, 0, none⟩) rs.length c9)) ⟨w.heap.size, 1, none⟩ (.slice none 0 0)) ⟨w.heap.size, 2, none⟩ (.int .i64 tu)) ⟨w.heap.size, 3, none⟩ (.int .i64 se)) ⟨w.heap.size, 4, none⟩ (.int .i64 0)) ⟨w.heap.size, 5, none⟩ (.slice none 0 0)) ⟨w.heap.size, 6, none⟩ (.slice none 0 0)) ⟨w.heap.size, 7, none⟩ (.slice none 0 0))).heap.size = W.heap.size := by simp [World.setCell]
    generalize World.setCell (World.setCell (World.setCell (World.setCell (World.setCell (World.setCell (World.setCell (World.setCell W ⟨w.heap.size, 0, none⟩ (.slice (some ⟨g9, 0, none⟩) rs.length c9)) ⟨w.heap.size, 1, none⟩ (.slice none 0 0)) ⟨w.heap.size, 2, none⟩ (.int .i64 tu)) ⟨w.heap.size, 3, none⟩ (.int .i64 se)) ⟨w.heap.size, 4, none⟩ (.int .i64 0)) ⟨w.heap.size, 5, none⟩ (.slice none 0 0)) ⟨w.heap.size, 6, none⟩ (.slice none 0 0)) ⟨w.heap.size, 7, none⟩ (.slice none 0 0) = W3 at *
    replace hO := hO.kept gRW3 (fun k hk e => by have h1 := (hO.lt k hk); have h2 : k = w.heap.size := (Option.some.inj e); first | (clear gRW3; omega) | exact absurd h2 (nehO k hk))
    have f0 := (hF.cell 0).trans (show _ = some (.int .i64 tu) from rfl)
    have f1 := (hF.cell 1).trans (show _ = some (.int .i64 se) from rfl)
    have f2 := (hF.cell 2).trans (show _ = some (.int .i64 0) from rfl)
    have f3 := (hF.cell 3).trans (show _ = some (.slice none 0 0) from rfl)
    have f4 := (hF.cell 4).trans (show _ = some (.slice none 0 0) from rfl)
    have z0 := (hZ.cell 0).trans (show _ = some (.slice (some ⟨g9, 0, none⟩) rs.length c9) from rfl)
    have z1 := (hZ.cell 1).trans (show _ = some (.slice none 0 0) from rfl)
    have z2 := (hZ.cell 2).trans (show _ = some (.int .i64 tu) from rfl)
    have z3 := (hZ.cell 3).trans (show _ = some (.int .i64 se) from rfl)
    have z4 := (hZ.cell 4).trans (show _ = some (.int .i64 0) from rfl)
    have z5 := (hZ.cell 5).trans (show _ = some (.slice none 0 0) from rfl)
    have z6 := (hZ.cell 6).trans (show _ = some (.slice none 0 0) from rfl)
    have z7 := (hZ.cell 7).trans (show _ = some (.slice none 0 0) from rfl)
    refine Nrm_intro (((HCC5.out _).2 ⟨HB, hF⟩)) (hK2 _ _ ?_)
    refine wpMix_last ?_
    change wpQuiet _ _ _ _ (_ :: []) _
    repeat (go_big_quiet_step (fail))
    refine wpQuiet_nil ?_
    go_wp2
    refine bodyPost_ret (v := .tuple #[.agg #[.slice (some ⟨g9, 0, none⟩) rs.length c9, .slice none 0 0, .int .i64 tu, .int .i64 se, .int .i64 0, .slice none 0 0, .slice none 0 0, .slice none 0 0], .bool true]) (by simp [results, Try.results22, go_sem, z0, z1, z2, z3, z4, z5, z6, z7]) rfl ?_
    rw [nmM_yes HB2.out, HB2.out]
    exact ⟨some ⟨g9, 0, none⟩, c9, none, 0, none, 0, none, 0, none, 0, rfl, hO.base (by omega), OwnV.nil, OwnV.nil, OwnV.nil, OwnV.nil, apart_one5 _, HB⟩
end Go.Proofs.Ytkkdegmfmimdgaa
