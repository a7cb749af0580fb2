/- Clauses drawn by the cursor. -/
import Derived.Test.YtndenojanflkgaaCl16
namespace Go.Proofs.Ytndenojanflkgaa
open Go.RowKit Go.G9
/-- A clause whose slices are the call's own, in blocks from lo to hi. -/
structure ClE (lo hi : Nat) (W : World) (x : Cla) : Prop where
  ow : OwnV lo 9 1 bC W (.slice x.wa x.words.length x.wc) x.words
  on : OwnV lo 3 1 intC W (.slice x.na x.needs.length x.nc) x.needs
  hw : ∀ k, (Value.slice x.wa x.words.length x.wc).ownBlock = some k → k < hi
  hn : ∀ k, (Value.slice x.na x.needs.length x.nc).ownBlock = some k → k < hi
  lw : x.words.length ≤ 100
  ln : x.needs.length ≤ 100
  sw : ∀ s, s ∈ x.words → s.size ≤ 1000
theorem ClE.keptR {lo hi : Nat} {W W' : World} {x : Cla} {row : Option Nat} (h : ClE lo hi W x) (hg : W.grownBy W' row) (hr : ∀ r, row = some r → r < lo ∨ hi ≤ r) : ClE lo hi W' x :=
  ⟨h.ow.kept hg (fun k hk e => by have h1 := (h.ow.lt k hk).1; have h2 := h.hw k hk; rcases hr k e.symm with h3 | h3 <;> omega),
   h.on.kept hg (fun k hk e => by have h1 := (h.on.lt k hk).1; have h2 := h.hn k hk; rcases hr k e.symm with h3 | h3 <;> omega), h.hw, h.hn, h.lw, h.ln, h.sw⟩
theorem ClE.keptT {lo hi B : Nat} {W W' : World} {x : Cla} {v : Value} {xs : List Cla} (h : ClE lo hi W x) (hO : OwnV B 53 2 Cla.cells W v xs) (hg : W.grownBy W' v.ownBlock) : ClE lo hi W' x :=
  ⟨h.ow.kept hg (fun k hk => apartC h.ow hO (by decide) k hk), h.on.kept hg (fun k hk => apartC h.on hO (by decide) k hk), h.hw, h.hn, h.lw, h.ln, h.sw⟩
theorem ClE.later {lo hi : Nat} {W W' : World} {x : Cla} (h : ClE lo hi W x) (hb : Below W.heap.size W W') : ClE lo hi W' x := ⟨h.ow.later hb, h.on.later hb, h.hw, h.hn, h.lw, h.ln, h.sw⟩
theorem ClE.wide {lo lo' hi hi' : Nat} {W : World} {x : Cla} (h : ClE lo hi W x) (h1 : lo' ≤ lo) (h2 : hi ≤ hi') : ClE lo' hi' W x :=
  ⟨h.ow.base h1, h.on.base h1, fun k hk => by have := h.hw k hk; omega, fun k hk => by have := h.hn k hk; omega, h.lw, h.ln, h.sw⟩
theorem ClE.ok {lo hi : Nat} {W : World} {x : Cla} (h : ClE lo hi W x) : ClOk W x :=
  ⟨h.ow.rds bC_len, h.on.rds intC_len, by have := h.lw; omega, by have := h.ln; omega, h.sw, h.ow.nilOk⟩
/-- A list of such clauses. -/
structure ClL (lo hi : Nat) (W : World) (v : Value) (xs : List Cla) : Prop where
  row : OwnV lo 53 2 Cla.cells W v xs
  el : ∀ x, x ∈ xs → ClE lo hi W x
theorem ClL.keptR {lo hi : Nat} {W W' : World} {v : Value} {xs : List Cla} {r : Nat} (h : ClL lo hi W v xs) (hg : W.grownBy W' (some r)) (hr : r < lo) : ClL lo hi W' v xs :=
  ⟨h.row.kept hg (fun k hk e => by have := (h.row.lt k hk).1; have := Option.some.inj e; omega), fun x hx => (h.el x hx).keptR hg (fun q hq => by cases hq; exact Or.inl hr)⟩
theorem ClL.keptO {T : Type} {lo hi B sz : Nat} {e : TypeId} {f : T → List Value} {W W' : World} {v v2 : Value} {xs : List Cla} {ys : List T} (h : ClL lo hi W v xs) (hO : OwnV B e sz f W v2 ys) (hg : W.grownBy W' v2.ownBlock) (hne : 53 ≠ e) (hB : hi ≤ B) : ClL lo hi W' v xs :=
  ⟨h.row.kept hg (fun k hk => apartC h.row hO hne k hk), fun x hx => (h.el x hx).keptR hg (fun q hq => Or.inr (by have := (hO.lt q hq).1; omega))⟩
theorem ClL.keptB {lo hi : Nat} {W : World} {v : Value} {xs : List Cla} {b j : Nat} {cs : Array Value} (h : ClL lo hi W v xs) (_ : Blk W b 53 cs) (u : Value) (hr : hi ≤ b) (hnr : ∀ k, v.ownBlock = some k → k ≠ b) : ClL lo hi (W.setCell ⟨b, j, none⟩ u) v xs :=
  ⟨h.row.kept (grown_set (j := j) (grown_refl W (some b)) u) (fun k hk e => hnr k hk (Option.some.inj e)), fun x hx => (h.el x hx).keptR (grown_set (j := j) (grown_refl W (some b)) u) (fun q hq => by cases hq; exact Or.inr hr)⟩
theorem ClL.later {lo hi : Nat} {W W' : World} {v : Value} {xs : List Cla} (h : ClL lo hi W v xs) (hb : Below W.heap.size W W') : ClL lo hi W' v xs :=
  ⟨h.row.later hb, fun x hx => (h.el x hx).later hb⟩
theorem ClL.wide {lo hi hi' : Nat} {W : World} {v : Value} {xs : List Cla} (h : ClL lo hi W v xs) (hh : hi ≤ hi') : ClL lo hi' W v xs := ⟨h.row, fun x hx => (h.el x hx).wide (Nat.le_refl _) hh⟩
theorem ClL.nil {lo hi : Nat} {W : World} {v : Value} (h : OwnV lo 53 2 Cla.cells W v []) : ClL lo hi W v [] := ⟨h, fun x hx => by simp at hx⟩
/-- One more clause. -/
theorem ClL.add {lo hi : Nat} {W W' : World} {v v' : Value} {xs : List Cla} {x : Cla} (h : ClL lo hi W v xs) (hh : hi ≤ W.heap.size) (hx : ClE lo W.heap.size W x) (hO : OwnV lo 53 2 Cla.cells W' v' (xs ++ [x])) (hg : W.grownBy W' v.ownBlock) : ClL lo W'.heap.size W' v' (xs ++ [x]) :=
  ⟨hO, fun y hy => by
    have hs := hg.size
    rcases List.mem_append.1 hy with h1 | h1
    · exact ((h.el y h1).keptT h.row hg).wide (Nat.le_refl _) (by omega)
    · simp at h1; subst h1; exact (hx.keptT h.row hg).wide (Nat.le_refl _) hs⟩
theorem ClL.rds {lo hi : Nat} {W : World} {Y : Option Addr} {y : Nat} {xs : List Cla} (h : ClL lo hi W (.slice Y xs.length y) xs) (hl : xs.length ≤ 100) : ClR W Y xs := ⟨h.row.rds cla_len, fun x hx => (h.el x hx).ok, by omega⟩
theorem ClE.made {lo hi : Nat} {W : World} {wa : Option Addr} {wc : Nat} {ws : List ByteArray} {na : Option Addr} {nc : Nat} {ns : List Int} (h1 : OwnV lo 9 1 bC W (.slice wa ws.length wc) ws) (h2 : OwnV lo 3 1 intC W (.slice na ns.length nc) ns) (hh : W.heap.size ≤ hi) (l1 : ws.length ≤ 100) (l2 : ns.length ≤ 100) (hs : ∀ s, s ∈ ws → s.size ≤ 1000) : ClE lo hi W ⟨wa, wc, ws, na, nc, ns⟩ :=
  ⟨h1, h2, fun k hk => by have := (h1.lt k hk).2; omega, fun k hk => by have := (h2.lt k hk).2; omega, l1, l2, hs⟩
theorem info_Cla : (Try.prog.info? 53).map (fun i => (i.zero, i.size, i.bytes)) = some (some (.agg #[.slice none 0 0, .slice none 0 0]), 2, 48) := by kernel_rfl
theorem rds_oneCl (w : World) (x : Cla) (e : TypeId) : Rds 2 Cla.cells (w.alloc (.cells #[.slice x.wa x.words.length x.wc, .slice x.na x.needs.length x.nc] e)) (some ⟨w.heap.size, 0, none⟩) [x] := Rds.one _ _
set_option maxHeartbeats 8000000 in
set_option maxRecDepth 100000 in
theorem clauses_is (p : Nat) (A : Option Addr) (c : Nat) (cs : List UInt8) (hcs : cs.length ≤ 1048576) (N : Nat) (hN : N ≤ 600000) (w : World) (hC : Cur w p A c cs N) :
  Calls Try.prog 22 #[.pointer (some ⟨p, 0, none⟩)] w fun e w' => ∃ (xs : List Cla) (Y : Option Addr) (y : Nat), e = .returned (.slice Y xs.length y) ∧ xs.length ≤ 20 ∧ ClL w.heap.size w'.heap.size w' (.slice Y xs.length y) xs ∧ Stepped w w' p A c cs (N + 1000) := by
  obtain ⟨i0, hi, hz0, hz1, hz2⟩ := info_parts info_Cla
  obtain ⟨j0, hj, jz0, jz1, jz2⟩ := info_parts info_strC
  obtain ⟨k0, hk0, kz0, kz1, kz2⟩ := info_parts info_int
  go_enter Try.func22, Try.ntmps22
  have hp := hC.lt
  have HG := grown_refl w (some p)
  have hO0 : OwnV w.heap.size 53 2 Cla.cells (w.alloc (.cells #[] 53)) (.slice (some ⟨w.heap.size, 0, none⟩) 0 0) [] := OwnV.made w (Nat.le_refl _) _
  go_wp2_with fail
  refine (pick_is 7 p A c cs hcs N (by omega) (by omega) _ (hC.later (by repeat (first | exact Below.refl _ _ | refine Below.alloc ?_ (by first | exact Nat.le_refl _ | (simp <;> omega)) _ | refine Below.setCell ?_ (by first | exact Nat.le_refl _ | (simp <;> omega)) _)))).mono ?_
  rintro e w1 ⟨r, rfl, ⟨hr0, _, hr1⟩, hS1⟩
  have hg1 : w.grownBy w1 (some p) := grown_tr (below_grown (by repeat (first | exact Below.refl _ _ | refine Below.alloc ?_ (by first | exact Nat.le_refl _ | (simp <;> omega)) _ | refine Below.setCell ?_ (by first | exact Nat.le_refl _ | (simp <;> omega)) _)) _) hS1.2
  replace hC := hS1.1
  have sz1 := hg1.size
  replace HG := grown_tr HG hg1
  have hr2 := hr1 (by omega)
  have hL0 := (ClL.nil (hi := w1.heap.size) hO0).keptR hS1.2 hp
  clear hr1 hO0
  obtain ⟨m0, rfl⟩ : ∃ m : Nat, r = m := ⟨r.toNat, by omega⟩
  have HP := Lib.hid hp
  go_wp2
  go_loopw [3, 4] (fun y i wr => ∃ (m : Nat) (xs : List Cla), i = .int .i64 (m : Int) ∧ xs.length + m ≤ 6 ∧ ClL w.heap.size wr.heap.size wr y xs ∧ Cur wr p A c cs (N + 2 + 60 * (6 - m)) ∧ w.grownBy wr (some p)) (fun _ i _ => (intOf i).toNat)
  case atStart => exact ⟨m0, [], rfl, by simp; omega, hL0, hC.mono (by omega), HG⟩
  case round =>
    clear hC hL0 HG hp
    obtain ⟨m, xs, rfl, hm, hL, hC, HG⟩ := hrel
    have hpr := hC.lt
    have hpw := HP.out
    have hsr := HG.size
    obtain ⟨Y, y, hYe, _, _, _⟩ := hL.row.form cla_len
    subst hYe
    obtain ⟨h0, hh0⟩ : ∃ h, h = wr.heap.size := ⟨_, rfl⟩
    have HLXb : Hid (∀ k, (Value.slice Y xs.length y).ownBlock = some k → k < h0) := Lib.hid (fun k hk => by have := (hL.row.lt k hk).2; omega)
    rw [← hh0] at hL
    by_cases hlt : 0 < m
    · have hmm : (m : Int) - 1 = ((m - 1 : Nat) : Int) := by omega
      go_wp2_with fail
      refine (words_is 2 (by omega) (by omega) p A c cs hcs (N + 2 + 60 * (6 - m)) (by omega) _ (hC.later (by repeat (first | exact Below.refl _ _ | refine Below.alloc ?_ (by first | exact Nat.le_refl _ | (simp <;> omega)) _ | refine Below.setCell ?_ (by first | exact Nat.le_refl _ | (simp <;> omega)) _)))).mono ?_
      rintro e w2 ⟨ws, Wa, wc, rfl, hwl, hws, hW, hS2⟩
      have hg2 : wr.grownBy w2 (some p) := grown_tr (below_grown (by repeat (first | exact Below.refl _ _ | refine Below.alloc ?_ (by first | exact Nat.le_refl _ | (simp <;> omega)) _ | refine Below.setCell ?_ (by first | exact Nat.le_refl _ | (simp <;> omega)) _)) _) hS2.2
      replace hC := hS2.1
      have sz2 := hg2.size
      replace HG := grown_tr HG hg2
      replace hL := hL.keptR hg2 hpw
      replace hW := hW.base (B' := h0) (by omega)
      have HWS := Lib.hid hws; clear hws
      have hL1 := built_rdsO w2 [(⟨#[112, 97, 121]⟩ : ByteArray), (⟨#[99, 108, 111, 115, 101]⟩ : ByteArray), (⟨#[111, 112, 101, 110]⟩ : ByteArray)] (by simp [maxLen])
      simp only [List.flatMap_cons, List.flatMap_nil, bC, List.append_nil, List.singleton_append] at hL1
      have HL1 := Lib.hid hL1; clear hL1
      go_wp2_with fail
      refine (of_is (some ⟨w2.heap.size, 0, none⟩) _ [(⟨#[112, 97, 121]⟩ : ByteArray), (⟨#[99, 108, 111, 115, 101]⟩ : ByteArray), (⟨#[111, 112, 101, 110]⟩ : ByteArray)] (by simp) (by simp) p A c cs hcs (N + 2 + 60 * (6 - m) + 30) (by omega) _ (hC.later (by repeat (first | exact Below.refl _ _ | refine Below.alloc ?_ (by first | exact Nat.le_refl _ | (simp <;> omega)) _ | refine Below.setCell ?_ (by first | exact Nat.le_refl _ | (simp <;> omega)) _))) HL1.out (fun ad h _ => by cases h; show w2.heap.size ≠ p; omega)).mono ?_
      rintro e w3 ⟨s, rfl, hq, hS3⟩
      have hg3 : w2.grownBy w3 (some p) := grown_tr (below_grown (by repeat (first | exact Below.refl _ _ | refine Below.alloc ?_ (by first | exact Nat.le_refl _ | (simp <;> omega)) _ | refine Below.setCell ?_ (by first | exact Nat.le_refl _ | (simp <;> omega)) _)) _) hS3.2
      replace hC := hS3.1
      have sz3 := hg3.size
      replace HG := grown_tr HG hg3
      have hss : s.size ≤ 1000 := by
        simp only [List.mem_cons, List.not_mem_nil, or_false] at hq
        rcases hq with h | h | h <;> (subst h; decide)
      clear hq HL1
      replace hL := hL.keptR hg3 hpw
      replace hW := hW.kept hg3 (fun k hk e => by have := (hW.lt k hk).1; have := Option.some.inj e; omega)
      obtain ⟨ws1, hws1⟩ : ∃ l, l = ws ++ [s] := ⟨_, rfl⟩
      have hl1 : ws1.length ≤ 11 := by rw [hws1]; simp; omega
      have HWS1 : Hid (∀ t, t ∈ ws1 → t.size ≤ 1000) := Lib.hid (fun t ht => by
        rw [hws1] at ht
        rcases List.mem_append.1 ht with h | h
        · exact HWS.out t h
        · simp at h; subst h; exact hss)
      have HW1 := Lib.hid hws1; clear hws1
      go_upto_region 6 with ((at_builtin; refine wpList_app1 rfl _ _ 36 rfl h0 9 j0 _ 1 16 Try.underlying36 hj jz0 jz1 jz2 rfl (by decide) bC bC_len bC_one _ ws rfl (hW.alloc _) ⟨w3.heap.size, 0, none⟩ 1 s rfl (rds_oneS _ _ _) (by unfold maxLen; omega) (by omega) (by have := HG.size; simp; omega) ?_; intro v4 w4 hO4 hg4 ha4; rw [← HW1.out] at hO4; obtain ⟨W2, c2, rfl, _, _, _⟩ := hO4.form bC_len))
      have hC4 := (hC.later (bl1 _ _)).row hg4 (fun k hk => by have := (hW.lt k hk).1; omega)
      have HG4 := grown_row2 (grown_tr HG (below_grown (bl1 _ _) _)) hg4 (fun k hk => by have := (hW.lt k hk).1; omega)
      have hL4 := (hL.later (bl1 _ _)).keptO (hW.alloc _) hg4 (by decide) (Nat.le_refl _)
      have hsw := hg4.size
      clear hW hL hC HG hg4 ha4
      have hC := hC4; have HG := HG4; have hL := hL4; have hW := hO4
      clear hC4 HG4 hL4 hO4
      have hp4 := hC.lt
      have hs4 : h0 ≤ w4.heap.size := by simp at hsw; omega
      have hX := Blk.new w4 53 #[.slice W2 ws1.length c2, .slice none 0 0]
      have hbX := bl1 w4 (.cells #[.slice W2 ws1.length c2, .slice none 0 0] 53)
      replace hC := hC.later hbX
      replace HG := grown_tr HG (below_grown hbX (some p))
      replace hL := hL.later hbX
      replace hW := hW.later hbX
      obtain ⟨xb, hxb⟩ : ∃ b, b = w4.heap.size := ⟨_, rfl⟩
      rw [← hxb] at hX
      generalize w4.alloc (.cells #[.slice W2 ws1.length c2, .slice none 0 0] 53) = w5 at *
      rw [← hxb]
      have hxh : h0 ≤ xb := by omega
      have hxp : xb ≠ p := by omega
      have HCC := Lib.hid hC; have HGG := Lib.hid HG; have HLL := Lib.hid hL; have HWW := Lib.hid hW; have HXX := Lib.hid hX
      clear hC HG hL hW hX hbX hxb hsw hs4 hp4
      go_wp2
      go_loopw [6] (fun i wr => ∃ (k : Nat) (ns : List Int) (na : Option Addr) (nc : Nat), i = .int .i64 (k : Int) ∧ k ≤ xs.length ∧ ns.length ≤ k ∧ Blk wr xb 53 #[.slice W2 ws1.length c2, .slice na ns.length nc] ∧ OwnV h0 9 1 bC wr (.slice W2 ws1.length c2) ws1 ∧ OwnV h0 3 1 intC wr (.slice na ns.length nc) ns ∧ ClL w.heap.size h0 wr (.slice Y xs.length y) xs ∧ Cur wr p A c cs (N + 2 + 60 * (6 - m) + 32 + 2 * k) ∧ w.grownBy wr (some p)) (fun i _ => xs.length - (intOf i).toNat)
      case atStart => exact ⟨0, [], none, 0, rfl, Nat.zero_le _, Nat.le_refl _, HXX.out, HWW.out, OwnV.nil, HLL.out, HCC.out.mono (by omega), HGG.out⟩
      case round =>
        clear HCC HGG HLL HWW HXX
        obtain ⟨k, ns, na, nc, rfl, hk, hnl, hX, hW, hN2, hL, hC, HG⟩ := hrel
        have hpq := hC.lt
        have hxl := hX.lt
        by_cases hlk : k < xs.length
        · go_wp2_with fail
          refine (one_is 4 p A c cs hcs (N + 2 + 60 * (6 - m) + 32 + 2 * k) (by omega) (by omega) _ (hC.later (by repeat (first | exact Below.refl _ _ | refine Below.alloc ?_ (by first | exact Nat.le_refl _ | (simp <;> omega)) _ | refine Below.setCell ?_ (by first | exact Nat.le_refl _ | (simp <;> omega)) _)))).mono ?_
          rintro e w4 ⟨b, rfl, hS4⟩
          have hg4 : wr.grownBy w4 (some p) := grown_tr (below_grown (by repeat (first | exact Below.refl _ _ | refine Below.alloc ?_ (by first | exact Nat.le_refl _ | (simp <;> omega)) _ | refine Below.setCell ?_ (by first | exact Nat.le_refl _ | (simp <;> omega)) _)) _) hS4.2
          replace hC := hS4.1
          have sz4 := hg4.size
          replace HG := grown_tr HG hg4
          replace hL := hL.keptR hg4 hpw
          replace hW := hW.kept hg4 (fun k hk e => by have := (hW.lt k hk).1; have := Option.some.inj e; omega)
          replace hN2 := hN2.kept hg4 (fun k hk e => by have := (hN2.lt k hk).1; have := Option.some.inj e; omega)
          replace hX := hX.grownB hg4 hxp
          cases b
          · go_wp2
            go_roundw
            case rel => exact ⟨k + 1, ns, na, nc, by go_num, by omega, by omega, hX, hW, hN2, hL, hC.mono (by omega), HG⟩
            case measure => simp [intOf]; omega
          · have hxl := hX.lt
            have x1 := (hX.cell 1).trans (show _ = some (.slice na ns.length nc) from rfl)
            have fx1 := hX.frozen 1
            obtain ⟨ns1, hns1⟩ : ∃ l, l = ns ++ [(k : Int)] := ⟨_, rfl⟩
            have hnl1 : ns1.length = ns.length + 1 := by rw [hns1]; simp
            have HN1 := Lib.hid hns1; clear hns1
            have hLX : Hid (∀ k, (Value.slice Y xs.length y).ownBlock = some k → k ≠ xb) := Lib.hid (fun k hk e => by have := HLXb.out k hk; omega)
            have HNL1 := Lib.hid hnl1; clear hnl1
            go_wp2_with ((at_builtin; refine wpList_app1 rfl _ _ 28 rfl h0 3 k0 _ 1 8 Try.underlying28 hk0 kz0 kz1 kz2 rfl (by decide) intC intC_len intC_one _ ns rfl (hN2.alloc _) ⟨w4.heap.size, 0, none⟩ 1 (k : Int) rfl (Rds.one _ _) (by unfold maxLen; omega) (by omega) (by have := HG.size; simp; omega) ?_; intro v4 w4 hO4 hg4 ha4; rw [← HN1.out] at hO4; obtain ⟨na1, nc1, hv, q1, q2, q3⟩ := hO4.form intC_len; subst hv; have hX4 := (hX.alloc (.cells #[.int .i64 (k : Int)] 3)).grownB2 hg4 (fun e => notBlkC hN2 hX (by decide) xb e rfl); have xx1 := (hX4.cell 1).trans (show _ = some (.slice na ns.length nc) from rfl); have ffx1 := hX4.frozen 1; have hxl4 := hX4.lt))
            clear xx1 ffx1 x1 fx1
            have hW4 := (hW.alloc (.cells #[.int .i64 (k : Int)] 3)).kept hg4 (fun k hk => apartC hW hN2 (by decide) k hk)
            have hL4 := (hL.later (bl1 _ _)).keptO (hN2.alloc _) hg4 (by decide) (Nat.le_refl _)
            have hC4 := (hC.later (bl1 _ _)).row hg4 (fun k hk => by have := (hN2.lt k hk).1; omega)
            have HG4 := grown_row2 (grown_tr HG (below_grown (bl1 _ _) _)) hg4 (fun k hk => by have := (hN2.lt k hk).1; omega)
            have hW5 := hW4.kept (grown_set (j := 1) (grown_refl w4 (some xb)) (.slice na1 ns1.length nc1)) (fun k hk e => notBlkC hW4 hX4 (by decide) k hk (Option.some.inj e))
            have hN5 := hO4.kept (grown_set (j := 1) (grown_refl w4 (some xb)) (.slice na1 ns1.length nc1)) (fun k hk e => notBlkC hO4 hX4 (by decide) k hk (Option.some.inj e))
            have hL5 := hL4.keptB hX4 (j := 1) (.slice na1 ns1.length nc1) hxh (fun k hk e => hLX.out k hk e)
            have hC5 := hC4.store (g := xb) (by omega) 1 (.slice na1 ns1.length nc1)
            have HG5 := grown_store HG4 (g := xb) (by omega) 1 (.slice na1 ns1.length nc1)
            have hX5 : Blk (w4.setCell ⟨xb, 1, none⟩ (.slice na1 ns1.length nc1)) xb 53 #[.slice W2 ws1.length c2, .slice na1 ns1.length nc1] := hX4.set_ 1 _
            clear hX4 hW4 hL4 hC4 HG4 hO4 hg4 ha4 hX hW hN2 hL hC HG
            generalize w4.setCell ⟨xb, 1, none⟩ (.slice na1 ns1.length nc1) = w6 at *
            go_roundw
            case rel => exact ⟨k + 1, ns1, na1, nc1, by go_num, by omega, by rw [HNL1.out]; omega, hX5, hW5, hN5, hL5, hC5.mono (by omega), HG5⟩
            case measure => simp [intOf]; omega
        · obtain rfl : k = xs.length := by omega
          have x0 := (hX.cell 0).trans (show _ = some (.slice W2 ws1.length c2) from rfl)
          have x1 := (hX.cell 1).trans (show _ = some (.slice na ns.length nc) from rfl)
          have hsz := HG.size
          have hh0 : h0 ≤ wr.heap.size := by omega
          have hEx : ClE w.heap.size wr.heap.size wr ⟨W2, c2, ws1, na, nc, ns⟩ := ClE.made (hW.base (by omega)) (hN2.base (by omega)) (Nat.le_refl _) (by omega) (by omega) HWS1.out
          have hbc := bl1 wr (.cells #[.slice W2 ws1.length c2, .slice na ns.length nc] 53)
          go_wp2_with ((at_builtin; refine wpList_app1 rfl _ _ 24 rfl w.heap.size 53 i0 _ 2 48 Try.underlying24 hi hz0 hz1 hz2 rfl (by decide) Cla.cells cla_len cla_one _ xs rfl (hL.row.alloc _) ⟨wr.heap.size, 0, none⟩ 1 ⟨W2, c2, ws1, na, nc, ns⟩ rfl (rds_oneCl _ _ _) (by unfold maxLen; omega) (by omega) (by simp; omega) ?_; intro v4 w4 hO4 hg4 ha4))
          have hC4 := (hC.later hbc).row hg4 (fun k hk => by have := (hL.row.lt k hk).1; omega)
          have HG4 := grown_row2 (grown_tr HG (below_grown hbc _)) hg4 (fun k hk => (hL.row.lt k hk).1)
          have hL4 := (hL.later hbc).add (by have := hbc.size; omega) ((hEx.later hbc).wide (Nat.le_refl _) hbc.size) hO4 hg4
          clear hO4 hg4 ha4 hX hW hN2 hL hC HG x0 x1
          go_roundw
          case rel => exact ⟨m - 1, _, by rw [← hmm], by simp; omega, hL4, hC4.mono (by omega), HG4⟩
          case measure => simp [intOf]; omega
    · obtain rfl : m = 0 := by omega
      go_wp2_with fail
      refine (pick_is 24 p A c cs hcs (N + 2 + 60 * (6 - 0)) (by omega) (by omega) _ (hC.later (by repeat (first | exact Below.refl _ _ | refine Below.alloc ?_ (by first | exact Nat.le_refl _ | (simp <;> omega)) _ | refine Below.setCell ?_ (by first | exact Nat.le_refl _ | (simp <;> omega)) _)))).mono ?_
      rintro e w5 ⟨r, rfl, ⟨hr0, _, _⟩, hS5⟩
      have hg5 : wr.grownBy w5 (some p) := grown_tr (below_grown (by repeat (first | exact Below.refl _ _ | refine Below.alloc ?_ (by first | exact Nat.le_refl _ | (simp <;> omega)) _ | refine Below.setCell ?_ (by first | exact Nat.le_refl _ | (simp <;> omega)) _)) _) hS5.2
      replace hC := hS5.1
      have sz5 := hg5.size
      replace HG := grown_tr HG hg5
      replace hL := hL.keptR hg5 hpw
      rcases (show r = 0 ∨ r = 1 ∨ r = 2 ∨ 2 < r by omega) with rfl | rfl | rfl | hr3
      · go_wp2_with fail
        refine (words_is 1 (by omega) (by omega) p A c cs hcs (N + 2 + 60 * (6 - 0) + 2) (by omega) _ (hC.later (by repeat (first | exact Below.refl _ _ | refine Below.alloc ?_ (by first | exact Nat.le_refl _ | (simp <;> omega)) _ | refine Below.setCell ?_ (by first | exact Nat.le_refl _ | (simp <;> omega)) _)))).mono ?_
        rintro e w6 ⟨ws, Wa, wc, rfl, hwl, hws, hW, hS6⟩
        have hg6 : w5.grownBy w6 (some p) := grown_tr (below_grown (by repeat (first | exact Below.refl _ _ | refine Below.alloc ?_ (by first | exact Nat.le_refl _ | (simp <;> omega)) _ | refine Below.setCell ?_ (by first | exact Nat.le_refl _ | (simp <;> omega)) _)) _) hS6.2
        replace hC := hS6.1
        have sz6 := hg6.size
        replace HG := grown_tr HG hg6
        replace hL := hL.keptR hg6 hpw
        replace hW := hW.base (B' := w.heap.size) (by omega)
        have HSX := Lib.hid hws; clear hws
        go_wp2_with fail
        refine (pick_is 8 p A c cs hcs (N + 2 + 60 * (6 - 0) + 2 + 30) (by omega) (by omega) _ (hC.later (by repeat (first | exact Below.refl _ _ | refine Below.alloc ?_ (by first | exact Nat.le_refl _ | (simp <;> omega)) _ | refine Below.setCell ?_ (by first | exact Nat.le_refl _ | (simp <;> omega)) _)))).mono ?_
        rintro e w7 ⟨q, rfl, _, hS7⟩
        have hg7 : w6.grownBy w7 (some p) := grown_tr (below_grown (by repeat (first | exact Below.refl _ _ | refine Below.alloc ?_ (by first | exact Nat.le_refl _ | (simp <;> omega)) _ | refine Below.setCell ?_ (by first | exact Nat.le_refl _ | (simp <;> omega)) _)) _) hS7.2
        replace hC := hS7.1
        have sz7 := hg7.size
        replace HG := grown_tr HG hg7
        replace hL := hL.keptR hg7 hpw
        replace hW := hW.kept hg7 (fun k hk e => by have := (hW.lt k hk).1; have := Option.some.inj e; omega)
        have hsG := HG.size
        have hN2 : OwnV w.heap.size 3 1 intC (w7.alloc (.cells #[.int .i64 q] 3)) (.slice (some ⟨w7.heap.size, 0, none⟩) 1 1) [q] := by
          have h := OwnV.built (B := w.heap.size) (f := intC) w7 [q] 3 hsG (by simp [maxLen]) intC_len
          simpa [intC] using h
        have hE1 : Below w7.heap.size w7 (w7.alloc (.cells #[.int .i64 q] 3)) := bl1 _ _
        have hs1 : (w7.alloc (.cells #[.int .i64 q] 3)).heap.size = w7.heap.size + 1 := by simp
        have hRx : Rds 2 Cla.cells ((w7.alloc (.cells #[.int .i64 q] 3)).alloc (.cells #[.slice Wa ws.length wc, .slice (some ⟨w7.heap.size, 0, none⟩) 1 1] 53)) (some ⟨w7.heap.size + 1, 0, none⟩) [(⟨Wa, wc, ws, some ⟨w7.heap.size, 0, none⟩, 1, [q]⟩ : Cla)] := by
          have h := rds_oneCl (w7.alloc (.cells #[.int .i64 q] 3)) (⟨Wa, wc, ws, some ⟨w7.heap.size, 0, none⟩, 1, [q]⟩ : Cla) 53
          rw [hs1] at h
          exact h
        have HRx := Lib.hid hRx; clear hRx hs1
        have hEx : ClE w.heap.size (w7.alloc (.cells #[.int .i64 q] 3)).heap.size (w7.alloc (.cells #[.int .i64 q] 3)) (⟨Wa, wc, ws, some ⟨w7.heap.size, 0, none⟩, 1, [q]⟩ : Cla) := ClE.made (hW.later hE1) (hN2) (Nat.le_refl _) (by first | omega | simp | (simp; omega)) (by first | omega | simp | (simp; omega)) (HSX.out)
        have HEx := Lib.hid hEx; clear hEx
        have hL1 := (hL.later hE1).later (bl1 (w7.alloc (.cells #[.int .i64 q] 3)) (.cells #[.slice Wa ws.length wc, .slice (some ⟨w7.heap.size, 0, none⟩) 1 1] 53))
        have hE2 := bl1 (w7.alloc (.cells #[.int .i64 q] 3)) (.cells #[.slice Wa ws.length wc, .slice (some ⟨w7.heap.size, 0, none⟩) 1 1] 53)
        go_wp2_with ((at_builtin; refine wpList_app1 rfl _ _ 24 rfl w.heap.size 53 i0 _ 2 48 Try.underlying24 hi hz0 hz1 hz2 rfl (by decide) Cla.cells cla_len cla_one _ xs rfl hL1.row ⟨w7.heap.size + 1, 0, none⟩ 1 ⟨Wa, wc, ws, some ⟨w7.heap.size, 0, none⟩, 1, [q]⟩ rfl HRx.out (by unfold maxLen; omega) (by omega) (by have := HG.size; simp; omega) ?_; intro v4 w4 hO4 hg4 ha4))
        have hC4 := ((hC.later hE1).later hE2).row hg4 (fun k hk => by have := (hL.row.lt k hk).1; omega)
        have HG4 := grown_row2 (grown_tr (grown_tr HG (below_grown hE1 _)) (below_grown hE2 _)) hg4 (fun k hk => (hL.row.lt k hk).1)
        have hL4 := hL1.add (by have := hE1.size; have := hE2.size; omega) ((HEx.out.later hE2).wide (Nat.le_refl _) hE2.size) hO4 hg4
        obtain ⟨Y2, y2, rfl, _, _, _⟩ := hL4.row.form cla_len
        go_wp2
        go_ret
        exact ⟨_, Y2, y2, rfl, by simp; omega, hL4, hC4.mono (by omega), HG4⟩
      · have hsG := HG.size
        have hN2 : OwnV w.heap.size 9 1 bC (w5.alloc (.cells #[.string (⟨#[65]⟩ : ByteArray)] 9)) (.slice (some ⟨w5.heap.size, 0, none⟩) 1 1) [(⟨#[65]⟩ : ByteArray)] := by
          have h := OwnV.built (B := w.heap.size) (f := bC) w5 [(⟨#[65]⟩ : ByteArray)] 9 hsG (by simp [maxLen]) bC_len
          simpa [bC] using h
        have HSX : Hid (∀ s, s ∈ [(⟨#[65]⟩ : ByteArray)] → s.size ≤ 1000) := Lib.hid (fun s hs => by simp at hs; subst hs; decide)
        have hE1 : Below w5.heap.size w5 (w5.alloc (.cells #[.string (⟨#[65]⟩ : ByteArray)] 9)) := bl1 _ _
        have hs1 : (w5.alloc (.cells #[.string (⟨#[65]⟩ : ByteArray)] 9)).heap.size = w5.heap.size + 1 := by simp
        have hRx : Rds 2 Cla.cells ((w5.alloc (.cells #[.string (⟨#[65]⟩ : ByteArray)] 9)).alloc (.cells #[.slice (some ⟨w5.heap.size, 0, none⟩) 1 1, .slice none 0 0] 53)) (some ⟨w5.heap.size + 1, 0, none⟩) [(⟨some ⟨w5.heap.size, 0, none⟩, 1, [(⟨#[65]⟩ : ByteArray)], none, 0, []⟩ : Cla)] := by
          have h := rds_oneCl (w5.alloc (.cells #[.string (⟨#[65]⟩ : ByteArray)] 9)) (⟨some ⟨w5.heap.size, 0, none⟩, 1, [(⟨#[65]⟩ : ByteArray)], none, 0, []⟩ : Cla) 53
          rw [hs1] at h
          exact h
        have HRx := Lib.hid hRx; clear hRx hs1
        have hEx : ClE w.heap.size (w5.alloc (.cells #[.string (⟨#[65]⟩ : ByteArray)] 9)).heap.size (w5.alloc (.cells #[.string (⟨#[65]⟩ : ByteArray)] 9)) (⟨some ⟨w5.heap.size, 0, none⟩, 1, [(⟨#[65]⟩ : ByteArray)], none, 0, []⟩ : Cla) := ClE.made (hN2) (OwnV.nil) (Nat.le_refl _) (by first | omega | simp | (simp; omega)) (by first | omega | simp | (simp; omega)) (HSX.out)
        have HEx := Lib.hid hEx; clear hEx
        have hL1 := (hL.later hE1).later (bl1 (w5.alloc (.cells #[.string (⟨#[65]⟩ : ByteArray)] 9)) (.cells #[.slice (some ⟨w5.heap.size, 0, none⟩) 1 1, .slice none 0 0] 53))
        have hE2 := bl1 (w5.alloc (.cells #[.string (⟨#[65]⟩ : ByteArray)] 9)) (.cells #[.slice (some ⟨w5.heap.size, 0, none⟩) 1 1, .slice none 0 0] 53)
        go_wp2_with ((at_builtin; refine wpList_app1 rfl _ _ 24 rfl w.heap.size 53 i0 _ 2 48 Try.underlying24 hi hz0 hz1 hz2 rfl (by decide) Cla.cells cla_len cla_one _ xs rfl hL1.row ⟨w5.heap.size + 1, 0, none⟩ 1 ⟨some ⟨w5.heap.size, 0, none⟩, 1, [(⟨#[65]⟩ : ByteArray)], none, 0, []⟩ rfl HRx.out (by unfold maxLen; omega) (by omega) (by have := HG.size; simp; omega) ?_; intro v4 w4 hO4 hg4 ha4))
        have hC4 := ((hC.later hE1).later hE2).row hg4 (fun k hk => by have := (hL.row.lt k hk).1; omega)
        have HG4 := grown_row2 (grown_tr (grown_tr HG (below_grown hE1 _)) (below_grown hE2 _)) hg4 (fun k hk => (hL.row.lt k hk).1)
        have hL4 := hL1.add (by have := hE1.size; have := hE2.size; omega) ((HEx.out.later hE2).wide (Nat.le_refl _) hE2.size) hO4 hg4
        obtain ⟨Y2, y2, rfl, _, _, _⟩ := hL4.row.form cla_len
        go_wp2
        go_ret
        exact ⟨_, Y2, y2, rfl, by simp; omega, hL4, hC4.mono (by omega), HG4⟩
      · have hsG := hg5.size
        go_wp2
        go_loopw [3, 7] (fun y iv wq => ∃ (j : Nat) (xs : List Cla), iv = .int .i64 (j : Int) ∧ j ≤ 10 ∧ xs.length ≤ 6 + j ∧ ClL w.heap.size wq.heap.size wq y xs ∧ Cur wq p A c cs (N + 400 + 2 * j) ∧ w.grownBy wq (some p)) (fun _ iv _ => 10 - (intOf iv).toNat)
        case atStart => exact ⟨0, xs, rfl, by omega, by omega, hL.wide (by omega), hC.mono (by omega), HG⟩
        case round =>
          clear hC hL HG hm HLXb hsr hh0 hpr hr0 hlt hsG
          obtain ⟨j, xs, rfl, hj, hxl, hL, hC, HG⟩ := hrel
          obtain ⟨Y, y, hYe, _, _, _⟩ := hL.row.form cla_len
          subst hYe
          have hpr := hC.lt
          go_wp2_with fail
          refine (pick_is 2 p A c cs hcs (N + 400 + 2 * j) (by omega) (by omega) _ (hC.later (by repeat (first | exact Below.refl _ _ | refine Below.alloc ?_ (by first | exact Nat.le_refl _ | (simp <;> omega)) _ | refine Below.setCell ?_ (by first | exact Nat.le_refl _ | (simp <;> omega)) _)))).mono ?_
          rintro e w6 ⟨q, rfl, ⟨hq0, _, hq1⟩, hS6⟩
          have hg6 : wr.grownBy w6 (some p) := grown_tr (below_grown (by repeat (first | exact Below.refl _ _ | refine Below.alloc ?_ (by first | exact Nat.le_refl _ | (simp <;> omega)) _ | refine Below.setCell ?_ (by first | exact Nat.le_refl _ | (simp <;> omega)) _)) _) hS6.2
          replace hC := hS6.1
          have sz6 := hg6.size
          replace HG := grown_tr HG hg6
          have hq2 := hq1 (by omega)
          clear hq1
          have hL2 := hL.keptR hg6 hpw
          have hsG := HG.size
          have hsK := hg6.size
          by_cases hlt : (xs.length : Int) < 8 + q
          · by_cases hj2 : j < 10
            · have hN2 : OwnV w.heap.size 9 1 bC (w6.alloc (.cells #[.string (⟨#[120]⟩ : ByteArray), .string (⟨#[121]⟩ : ByteArray), .string (⟨#[122]⟩ : ByteArray)] 9)) (.slice (some ⟨w6.heap.size, 0, none⟩) 3 3) [(⟨#[120]⟩ : ByteArray), (⟨#[121]⟩ : ByteArray), (⟨#[122]⟩ : ByteArray)] := by
                have h := OwnV.built (B := w.heap.size) (f := bC) w6 [(⟨#[120]⟩ : ByteArray), (⟨#[121]⟩ : ByteArray), (⟨#[122]⟩ : ByteArray)] 9 hsG (by simp [maxLen]) bC_len
                simpa [bC] using h
              have HSX : Hid (∀ s, s ∈ [(⟨#[120]⟩ : ByteArray), (⟨#[121]⟩ : ByteArray), (⟨#[122]⟩ : ByteArray)] → s.size ≤ 1000) := Lib.hid (fun s hs => by simp at hs; rcases hs with h | h | h <;> (subst h; decide))
              clear hL
              have hL := hL2
              have hE1 : Below w6.heap.size w6 (w6.alloc (.cells #[.string (⟨#[120]⟩ : ByteArray), .string (⟨#[121]⟩ : ByteArray), .string (⟨#[122]⟩ : ByteArray)] 9)) := bl1 _ _
              have hs1 : (w6.alloc (.cells #[.string (⟨#[120]⟩ : ByteArray), .string (⟨#[121]⟩ : ByteArray), .string (⟨#[122]⟩ : ByteArray)] 9)).heap.size = w6.heap.size + 1 := by simp
              have hRx : Rds 2 Cla.cells ((w6.alloc (.cells #[.string (⟨#[120]⟩ : ByteArray), .string (⟨#[121]⟩ : ByteArray), .string (⟨#[122]⟩ : ByteArray)] 9)).alloc (.cells #[.slice (some ⟨w6.heap.size, 0, none⟩) 3 3, .slice none 0 0] 53)) (some ⟨w6.heap.size + 1, 0, none⟩) [(⟨some ⟨w6.heap.size, 0, none⟩, 3, [(⟨#[120]⟩ : ByteArray), (⟨#[121]⟩ : ByteArray), (⟨#[122]⟩ : ByteArray)], none, 0, []⟩ : Cla)] := by
                have h := rds_oneCl (w6.alloc (.cells #[.string (⟨#[120]⟩ : ByteArray), .string (⟨#[121]⟩ : ByteArray), .string (⟨#[122]⟩ : ByteArray)] 9)) (⟨some ⟨w6.heap.size, 0, none⟩, 3, [(⟨#[120]⟩ : ByteArray), (⟨#[121]⟩ : ByteArray), (⟨#[122]⟩ : ByteArray)], none, 0, []⟩ : Cla) 53
                rw [hs1] at h
                exact h
              have HRx := Lib.hid hRx; clear hRx hs1
              have hEx : ClE w.heap.size (w6.alloc (.cells #[.string (⟨#[120]⟩ : ByteArray), .string (⟨#[121]⟩ : ByteArray), .string (⟨#[122]⟩ : ByteArray)] 9)).heap.size (w6.alloc (.cells #[.string (⟨#[120]⟩ : ByteArray), .string (⟨#[121]⟩ : ByteArray), .string (⟨#[122]⟩ : ByteArray)] 9)) (⟨some ⟨w6.heap.size, 0, none⟩, 3, [(⟨#[120]⟩ : ByteArray), (⟨#[121]⟩ : ByteArray), (⟨#[122]⟩ : ByteArray)], none, 0, []⟩ : Cla) := ClE.made (hN2) (OwnV.nil) (Nat.le_refl _) (by first | omega | simp | (simp; omega)) (by first | omega | simp | (simp; omega)) (HSX.out)
              have HEx := Lib.hid hEx; clear hEx
              have hL1 := (hL.later hE1).later (bl1 (w6.alloc (.cells #[.string (⟨#[120]⟩ : ByteArray), .string (⟨#[121]⟩ : ByteArray), .string (⟨#[122]⟩ : ByteArray)] 9)) (.cells #[.slice (some ⟨w6.heap.size, 0, none⟩) 3 3, .slice none 0 0] 53))
              have hE2 := bl1 (w6.alloc (.cells #[.string (⟨#[120]⟩ : ByteArray), .string (⟨#[121]⟩ : ByteArray), .string (⟨#[122]⟩ : ByteArray)] 9)) (.cells #[.slice (some ⟨w6.heap.size, 0, none⟩) 3 3, .slice none 0 0] 53)
              go_wp2_with ((at_builtin; refine wpList_app1 rfl _ _ 24 rfl w.heap.size 53 i0 _ 2 48 Try.underlying24 hi hz0 hz1 hz2 rfl (by decide) Cla.cells cla_len cla_one _ xs rfl hL1.row ⟨w6.heap.size + 1, 0, none⟩ 1 ⟨some ⟨w6.heap.size, 0, none⟩, 3, [(⟨#[120]⟩ : ByteArray), (⟨#[121]⟩ : ByteArray), (⟨#[122]⟩ : ByteArray)], none, 0, []⟩ rfl HRx.out (by unfold maxLen; omega) (by omega) (by have := HG.size; simp; omega) ?_; intro v4 w4 hO4 hg4 ha4))
              have hC4 := ((hC.later hE1).later hE2).row hg4 (fun k hk => by have := (hL.row.lt k hk).1; omega)
              have HG4 := grown_row2 (grown_tr (grown_tr HG (below_grown hE1 _)) (below_grown hE2 _)) hg4 (fun k hk => (hL.row.lt k hk).1)
              have hL4 := hL1.add (by have := hE1.size; have := hE2.size; omega) ((HEx.out.later hE2).wide (Nat.le_refl _) hE2.size) hO4 hg4
              go_roundw
              case rel => exact ⟨j + 1, _, by go_num, by omega, by simp; omega, hL4, hC4.mono (by omega), HG4⟩
              case measure => simp [intOf]; omega
            · have hj3 : ¬ (j : Int) < 10 := by omega
              go_wp2
              go_ret
              exact ⟨xs, Y, y, rfl, by omega, hL2.wide (by omega), hC.mono (by omega), HG⟩
          · go_wp2
            go_ret
            exact ⟨xs, Y, y, rfl, by omega, hL2.wide (by omega), hC.mono (by omega), HG⟩
      · have h0' : (r == 0) = false := beq_eq_false_iff_ne.2 (by omega)
        have h1' : (r == 1) = false := beq_eq_false_iff_ne.2 (by omega)
        have h2' : (r == 2) = false := beq_eq_false_iff_ne.2 (by omega)
        have hsG := hg5.size
        go_wp2
        go_ret
        exact ⟨xs, Y, y, rfl, by omega, hL.wide (by omega), hC.mono (by omega), HG⟩
end Go.Proofs.Ytndenojanflkgaa
