/- The draw of MayReconsider: a drawn region with makers and effects in every order. -/
import Derived.Test.YthgaddnbgnennaaDoorCurT
import Derived.Test.YthgaddnbgnennaaDoorMkr
import Derived.Test.YthgaddnbgnennaaDoorAny
namespace Go.Proofs.YthgaddnbgnennaaDoor
open Go.RowKit Go.G9
theorem putW_grown (z : Nat) (W : World) (v0 v1 v2 v3 v4 v5 : Value) : W.grownBy (World.setCell (World.setCell (World.setCell (World.setCell (World.setCell (World.setCell W ⟨z, 0, none⟩ v0) ⟨z, 1, none⟩ v1) ⟨z, 2, none⟩ v2) ⟨z, 3, none⟩ v3) ⟨z, 4, none⟩ v4) ⟨z, 5, none⟩ v5) (some z) :=
  grown_set (j := 5) (grown_set (j := 4) (grown_set (j := 3) (grown_set (j := 2) (grown_set (j := 1) (grown_set (j := 0) (grown_refl W (some z)) v0) v1) v2) v3) v4) v5
structure MayF (w0 : World) (p L : Nat) (d : Dec) (Y N' : Option Addr) (yc nc lo hi : Nat) (BZ : Array Value) (W : World) : Prop where
  gr : w0.grownBy W (some p)
  bl : Blk W L 35 #[.int .i64 d.id, .int .i64 d.day, .int .i64 d.need, .slice Y d.yes.length yc, .slice N' d.no.length nc, .bool d.done]
  bz : Blk W w0.heap.size 35 BZ
  sy : Seg lo hi W Y yc d.yes
  sn : Seg lo hi W N' nc d.no
  hs : hi ≤ W.heap.size
  pl : p < L
  zp : w0.heap.size < p
  po : p < lo
structure MayW (w0 : World) (p L : Nat) (A : Option Addr) (c : Nat) (cs : List UInt8) (d : Dec) (Y N' : Option Addr) (yc nc lo hi k : Nat) (BZ : Array Value) (W : World) : Prop where
  cur : ∃ N, N ≤ 1000 + 2 * k ∧ Cur W p A c cs N
  gr : w0.grownBy W (some p)
  bl : Blk W L 35 #[.int .i64 d.id, .int .i64 d.day, .int .i64 d.need, .slice Y d.yes.length yc, .slice N' d.no.length nc, .bool d.done]
  bz : Blk W w0.heap.size 35 BZ
  sy : Seg lo hi W Y yc d.yes
  sn : Seg lo hi W N' nc d.no
  hs : hi ≤ W.heap.size
  pl : p < L
  zp : w0.heap.size < p
  po : p < lo
section
variable {w0 W W' : World} {p L : Nat} {A : Option Addr} {c : Nat} {cs : List UInt8} {d : Dec} {Y N' : Option Addr} {yc nc lo hi k : Nat} {BZ : Array Value}
theorem MayW.below (h : MayW w0 p L A c cs d Y N' yc nc lo hi k BZ W) (hb : Below W.heap.size W W') : MayW w0 p L A c cs d Y N' yc nc lo hi k BZ W' := by
  obtain ⟨N, hN, hC⟩ := h.cur
  have hg := below_grown hb none
  exact ⟨⟨N, hN, hC.later hb⟩, grown_tr h.gr (below_grown hb _), h.bl.below hb h.bl.lt, h.bz.below hb h.bz.lt, h.sy.kept hg (fun k hk => by cases hk), h.sn.kept hg (fun k hk => by cases hk), Nat.le_trans h.hs hb.size, h.pl, h.zp, h.po⟩
theorem MayW.alloc (h : MayW w0 p L A c cs d Y N' yc nc lo hi k BZ W) (o : Obj) : MayW w0 p L A c cs d Y N' yc nc lo hi k BZ (W.alloc o) := h.below (bl1 W o)
theorem MayW.step (h : MayW w0 p L A c cs d Y N' yc nc lo hi k BZ W) {N : Nat} (hS : Stepped W W' p A c cs N) {k' : Nat} (hN : N ≤ 1000 + 2 * k') : MayW w0 p L A c cs d Y N' yc nc lo hi k' BZ W' :=
  have a1 := h.pl; have a2 := h.zp; have a3 := h.po
  ⟨⟨N, hN, hS.1⟩, grown_tr h.gr hS.2, h.bl.grownB hS.2 (by omega), h.bz.grownB hS.2 (by omega), h.sy.kept hS.2 (fun k hk => by have := Option.some.inj hk; omega), h.sn.kept hS.2 (fun k hk => by have := Option.some.inj hk; omega), Nat.le_trans h.hs hS.2.size, h.pl, h.zp, h.po⟩
theorem MayW.put (h : MayW w0 p L A c cs d Y N' yc nc lo hi k #[.int .i64 0, .int .i64 0, .int .i64 0, .slice none 0 0, .slice none 0 0, .bool false] W) : MayF w0 p L d Y N' yc nc lo hi #[.int .i64 d.id, .int .i64 d.day, .int .i64 d.need, .slice Y d.yes.length yc, .slice N' d.no.length nc, .bool d.done] (World.setCell (World.setCell (World.setCell (World.setCell (World.setCell (World.setCell W ⟨w0.heap.size, 0, none⟩ (.int .i64 d.id)) ⟨w0.heap.size, 1, none⟩ (.int .i64 d.day)) ⟨w0.heap.size, 2, none⟩ (.int .i64 d.need)) ⟨w0.heap.size, 3, none⟩ (.slice Y d.yes.length yc)) ⟨w0.heap.size, 4, none⟩ (.slice N' d.no.length nc)) ⟨w0.heap.size, 5, none⟩ (.bool d.done)) := by
  have a1 := h.pl; have a2 := h.zp; have a3 := h.po
  have hgs : W.grownBy (World.setCell (World.setCell (World.setCell (World.setCell (World.setCell (World.setCell W ⟨w0.heap.size, 0, none⟩ (.int .i64 d.id)) ⟨w0.heap.size, 1, none⟩ (.int .i64 d.day)) ⟨w0.heap.size, 2, none⟩ (.int .i64 d.need)) ⟨w0.heap.size, 3, none⟩ (.slice Y d.yes.length yc)) ⟨w0.heap.size, 4, none⟩ (.slice N' d.no.length nc)) ⟨w0.heap.size, 5, none⟩ (.bool d.done)) (some w0.heap.size) := (putW_grown w0.heap.size W (.int .i64 d.id) (.int .i64 d.day) (.int .i64 d.need) (.slice Y d.yes.length yc) (.slice N' d.no.length nc) (.bool d.done))
  exact ⟨(grown_store (grown_store (grown_store (grown_store (grown_store (grown_store h.gr (g := w0.heap.size) (Nat.le_refl _) 0 (.int .i64 d.id)) (g := w0.heap.size) (Nat.le_refl _) 1 (.int .i64 d.day)) (g := w0.heap.size) (Nat.le_refl _) 2 (.int .i64 d.need)) (g := w0.heap.size) (Nat.le_refl _) 3 (.slice Y d.yes.length yc)) (g := w0.heap.size) (Nat.le_refl _) 4 (.slice N' d.no.length nc)) (g := w0.heap.size) (Nat.le_refl _) 5 (.bool d.done)), h.bl.grownB hgs (by omega), ((((((h.bz.set_ 0 (.int .i64 d.id)).set_ 1 (.int .i64 d.day)).set_ 2 (.int .i64 d.need)).set_ 3 (.slice Y d.yes.length yc)).set_ 4 (.slice N' d.no.length nc)).set_ 5 (.bool d.done)), h.sy.kept hgs (fun k hk => by have := Option.some.inj hk; omega), h.sn.kept hgs (fun k hk => by have := Option.some.inj hk; omega), Nat.le_trans h.hs hgs.size, h.pl, h.zp, h.po⟩
end
structure LsW (p g : Nat) (xs : List Int) (W : World) : Prop where
  rds : Rds 1 intC W (some ⟨g, 0, none⟩) xs
  gt : p < g
theorem LsW.below {p g : Nat} {xs : List Int} {W W' : World} (h : LsW p g xs W) (hb : Below W.heap.size W W') : LsW p g xs W' := ⟨h.rds.below hb, h.gt⟩
theorem LsW.alloc {p g : Nat} {xs : List Int} {W : World} (h : LsW p g xs W) (o : Obj) : LsW p g xs (W.alloc o) := h.below (bl1 _ _)
theorem LsW.step {p g : Nat} {xs : List Int} {W W' : World} {A : Option Addr} {c : Nat} {cs : List UInt8} {N : Nat} (h : LsW p g xs W) (hS : Stepped W W' p A c cs N) : LsW p g xs W' :=
  ⟨rds_far h.rds hS.2 (fun ad ha _ => by cases ha; have := h.gt; show g ≠ p; omega), h.gt⟩
theorem LsW.put {p g z : Nat} {xs : List Int} {W W' : World} (h : LsW p g xs W) (hz : z < p) (hg : W.grownBy W' (some z)) : LsW p g xs W' :=
  ⟨rds_far h.rds hg (fun ad ha _ => by cases ha; have := h.gt; show g ≠ z; omega), h.gt⟩
theorem built_rdsM (w : World) (xs : List Int) (hm : xs.length ≤ maxLen) : Rds 1 intC (w.alloc (.cells (xs.flatMap intC).toArray 3)) (some ⟨w.heap.size, 0, none⟩) xs := (OwnV.built (B := w.heap.size) (f := intC) w xs 3 (Nat.le_refl _) hm intC_len).rds (hf := intC_len)
theorem LsW.made {p : Nat} {W : World} (hp : p < W.heap.size) (xs : List Int) (hm : xs.length ≤ maxLen) : LsW p W.heap.size xs (W.alloc (.cells (xs.flatMap intC).toArray 3)) := ⟨built_rdsM W xs hm, hp⟩
theorem rds_takeV {T : Type} {sz : Nat} {f : T → List Value} {w : World} {A : Option Addr} {xs : List T} (h : Rds sz f w A xs) (k : Nat) : Rds sz f w A (xs.take k) := by
  intro h0
  obtain ⟨b, off, h1, h2, h3⟩ := h (by rw [List.length_take] at h0; omega)
  refine ⟨b, off, h1, h2, fun i x hx j u hu => h3 i x ?_ j u hu⟩
  rw [List.getElem?_take] at hx
  split at hx
  · exact hx
  · cases hx
theorem among_preV (L : Option Addr) (lc : Nat) (xs : List Int) (n : Nat) (hn0 : 1 ≤ n) (hn : n ≤ xs.length) (hx1 : xs.length ≤ 1000) (p : Nat) (A : Option Addr) (c : Nat) (cs : List UInt8) (hcs : cs.length ≤ 1048576) (N : Nat) (hN : N ≤ 900000) (w : World) (h : Cur w p A c cs N)
    (hL : Rds 1 intC w L xs) (hne : ∀ ad, L = some ad → 0 < xs.length → ad.block ≠ p) :
  Calls Tryd.prog 54 #[.pointer (some ⟨p, 0, none⟩), .slice L n lc] w fun e w' => ∃ s, e = .returned (.int .i64 s) ∧ s ∈ xs ∧ Stepped w w' p A c cs (N + 2) := by
  have h1 := among_is L lc (xs.take n) (by rw [List.length_take]; omega) (by rw [List.length_take]; omega) p A c cs hcs N hN w h (rds_takeV hL n) (fun ad h1 h2 => hne ad h1 (by omega))
  rw [List.length_take, Nat.min_eq_left hn] at h1
  exact h1.mono fun e w' ⟨s, h1, h2, h3⟩ => ⟨s, h1, List.mem_of_mem_take h2, h3⟩
def mayLst (s : Nat) : Array Bool := setAll (match s with | 0 => [0, 1, 3, 9, 10, 11] | 1 => [0, 1, 2, 3, 9, 10, 11] | 2 => [0, 1, 3, 4, 5, 6, 9, 10, 11] | 3 => [0, 1, 2, 3, 4, 5, 6, 7, 9, 10, 11] | 4 => [0, 1, 3, 9, 10, 11, 12] | 5 => [0, 1, 2, 3, 9, 10, 11, 12] | 6 => [0, 1, 3, 4, 5, 6, 9, 10, 11, 12] | 7 => [0, 1, 2, 3, 4, 5, 6, 7, 9, 10, 11, 12] | 8 => [0, 1, 2, 3, 4, 5, 6, 7, 8, 9, 10, 11] | 9 => [0, 1, 2, 3, 4, 5, 6, 7, 8, 9, 10, 11, 12] | 10 => [0, 1, 2, 3, 4, 5, 6, 7, 8, 9, 10, 11, 12, 13, 14] | _ => [0, 1, 2, 3, 4, 5, 6, 7, 8, 9, 10, 11, 12, 13, 14, 15, 16, 17]) (Array.replicate 18 false)
def mayNxt : Nat → List (Nat × List Nat × Nat)
  | 0 => [(2, [], 1), (4, [5, 6], 2), (12, [], 4)]
  | 1 => [(4, [5, 6, 7], 3), (12, [], 5)]
  | 2 => [(2, [7], 3), (12, [], 6)]
  | 3 => [(8, [], 8), (12, [], 7)]
  | 4 => [(2, [], 5), (4, [5, 6], 6)]
  | 5 => [(4, [5, 6, 7], 7)]
  | 6 => [(2, [7], 7)]
  | 7 => [(8, [], 9)]
  | 8 => [(12, [], 9)]
  | 9 => [(13, [14], 10)]
  | 10 => [(15, [16, 17], 11)]
  | _ => []
def mayJ (w0 : World) (p L : Nat) (A : Option Addr) (c : Nat) (cs : List UInt8) (d : Dec) (Y N' : Option Addr) (yc nc lo hi : Nat) : Nat → Act → World → Prop
  | 0, a, V => a = ({ tmps := #[.slice A cs.length c, undef, .pointer (some ⟨w0.heap.size, 0, none⟩), .int .i64 0, .int .i64 0, .pointer (some ⟨p, 0, none⟩), .pointer (some ⟨L, 0, none⟩), .slice A cs.length c, .agg #[.slice A cs.length c, .int .i64 0, .int .u64 0], .pointer (some ⟨p, 0, none⟩), .pointer (some ⟨p, 0, none⟩), .agg #[.int .i64 d.id, .int .i64 d.day, .int .i64 d.need, .slice Y d.yes.length yc, .slice N' d.no.length nc, .bool d.done], .agg #[.int .i64 d.id, .int .i64 d.day, .int .i64 d.need, .slice Y d.yes.length yc, .slice N' d.no.length nc, .bool d.done], .pointer (some ⟨p, 0, none⟩), undef, .pointer (some ⟨p, 0, none⟩), undef, undef, undef, undef, undef, .pointer (some ⟨L, 1, none⟩), .int .i64 d.day, .pointer (some ⟨p, 0, none⟩), undef, undef, undef], defers := [] } : Act) ∧ MayW w0 p L A c cs d Y N' yc nc lo hi 0 #[.int .i64 0, .int .i64 0, .int .i64 0, .slice none 0 0, .slice none 0 0, .bool false] V
  | 1, a, V => ∃ (g : Nat), a = ({ tmps := #[.slice A cs.length c, undef, .pointer (some ⟨w0.heap.size, 0, none⟩), .int .i64 0, .int .i64 0, .pointer (some ⟨p, 0, none⟩), .pointer (some ⟨L, 0, none⟩), .slice A cs.length c, .agg #[.slice A cs.length c, .int .i64 0, .int .u64 0], .pointer (some ⟨p, 0, none⟩), .pointer (some ⟨p, 0, none⟩), .agg #[.int .i64 d.id, .int .i64 d.day, .int .i64 d.need, .slice Y d.yes.length yc, .slice N' d.no.length nc, .bool d.done], .agg #[.int .i64 d.id, .int .i64 d.day, .int .i64 d.need, .slice Y d.yes.length yc, .slice N' d.no.length nc, .bool d.done], .pointer (some ⟨p, 0, none⟩), .slice (some ⟨g, 0, none⟩) 8 8, .pointer (some ⟨p, 0, none⟩), undef, undef, undef, undef, undef, .pointer (some ⟨L, 1, none⟩), .int .i64 d.day, .pointer (some ⟨p, 0, none⟩), undef, undef, undef], defers := [] } : Act) ∧ MayW w0 p L A c cs d Y N' yc nc lo hi 0 #[.int .i64 0, .int .i64 0, .int .i64 0, .slice none 0 0, .slice none 0 0, .bool false] V ∧ LsW p g [1, 2, 3, 5, 9, 99, 0, 100] V
  | 2, a, V => ∃ (r q : Int) (j : Nat), a = ({ tmps := #[.slice A cs.length c, undef, .pointer (some ⟨w0.heap.size, 0, none⟩), .int .i64 0, .int .i64 0, .pointer (some ⟨p, 0, none⟩), .pointer (some ⟨L, 0, none⟩), .slice A cs.length c, .agg #[.slice A cs.length c, .int .i64 0, .int .u64 0], .pointer (some ⟨p, 0, none⟩), .pointer (some ⟨p, 0, none⟩), .agg #[.int .i64 d.id, .int .i64 d.day, .int .i64 d.need, .slice Y d.yes.length yc, .slice N' d.no.length nc, .bool d.done], .agg #[.int .i64 d.id, .int .i64 d.day, .int .i64 d.need, .slice Y d.yes.length yc, .slice N' d.no.length nc, .bool d.done], .pointer (some ⟨p, 0, none⟩), undef, .pointer (some ⟨p, 0, none⟩), .int .i64 r, .int .i64 q, .int .i64 (j : Int), undef, undef, .pointer (some ⟨L, 1, none⟩), .int .i64 d.day, .pointer (some ⟨p, 0, none⟩), undef, undef, undef], defers := [] } : Act) ∧ MayW w0 p L A c cs d Y N' yc nc lo hi 1 #[.int .i64 0, .int .i64 0, .int .i64 0, .slice none 0 0, .slice none 0 0, .bool false] V ∧ (0 ≤ q ∧ q ≤ 2 ∧ 6 + q = (j : Int))
  | 3, a, V => ∃ (g : Nat) (r q : Int) (j : Nat), a = ({ tmps := #[.slice A cs.length c, undef, .pointer (some ⟨w0.heap.size, 0, none⟩), .int .i64 0, .int .i64 0, .pointer (some ⟨p, 0, none⟩), .pointer (some ⟨L, 0, none⟩), .slice A cs.length c, .agg #[.slice A cs.length c, .int .i64 0, .int .u64 0], .pointer (some ⟨p, 0, none⟩), .pointer (some ⟨p, 0, none⟩), .agg #[.int .i64 d.id, .int .i64 d.day, .int .i64 d.need, .slice Y d.yes.length yc, .slice N' d.no.length nc, .bool d.done], .agg #[.int .i64 d.id, .int .i64 d.day, .int .i64 d.need, .slice Y d.yes.length yc, .slice N' d.no.length nc, .bool d.done], .pointer (some ⟨p, 0, none⟩), .slice (some ⟨g, 0, none⟩) 8 8, .pointer (some ⟨p, 0, none⟩), .int .i64 r, .int .i64 q, .int .i64 (j : Int), .slice (some ⟨g, 0, none⟩) j 8, undef, .pointer (some ⟨L, 1, none⟩), .int .i64 d.day, .pointer (some ⟨p, 0, none⟩), undef, undef, undef], defers := [] } : Act) ∧ MayW w0 p L A c cs d Y N' yc nc lo hi 1 #[.int .i64 0, .int .i64 0, .int .i64 0, .slice none 0 0, .slice none 0 0, .bool false] V ∧ LsW p g [1, 2, 3, 5, 9, 99, 0, 100] V ∧ (0 ≤ q ∧ q ≤ 2 ∧ 6 + q = (j : Int))
  | 4, a, V => ∃ (g6 : Nat), a = ({ tmps := #[.slice A cs.length c, undef, .pointer (some ⟨w0.heap.size, 0, none⟩), .int .i64 0, .int .i64 0, .pointer (some ⟨p, 0, none⟩), .pointer (some ⟨L, 0, none⟩), .slice A cs.length c, .agg #[.slice A cs.length c, .int .i64 0, .int .u64 0], .pointer (some ⟨p, 0, none⟩), .pointer (some ⟨p, 0, none⟩), .agg #[.int .i64 d.id, .int .i64 d.day, .int .i64 d.need, .slice Y d.yes.length yc, .slice N' d.no.length nc, .bool d.done], .agg #[.int .i64 d.id, .int .i64 d.day, .int .i64 d.need, .slice Y d.yes.length yc, .slice N' d.no.length nc, .bool d.done], .pointer (some ⟨p, 0, none⟩), undef, .pointer (some ⟨p, 0, none⟩), undef, undef, undef, undef, undef, .pointer (some ⟨L, 1, none⟩), .int .i64 d.day, .pointer (some ⟨p, 0, none⟩), .slice (some ⟨g6, 0, none⟩) 6 6, undef, undef], defers := [] } : Act) ∧ MayW w0 p L A c cs d Y N' yc nc lo hi 0 #[.int .i64 0, .int .i64 0, .int .i64 0, .slice none 0 0, .slice none 0 0, .bool false] V ∧ LsW p g6 [0, 0, 1, 1, 2, -1] V
  | 5, a, V => ∃ (g : Nat) (g6 : Nat), a = ({ tmps := #[.slice A cs.length c, undef, .pointer (some ⟨w0.heap.size, 0, none⟩), .int .i64 0, .int .i64 0, .pointer (some ⟨p, 0, none⟩), .pointer (some ⟨L, 0, none⟩), .slice A cs.length c, .agg #[.slice A cs.length c, .int .i64 0, .int .u64 0], .pointer (some ⟨p, 0, none⟩), .pointer (some ⟨p, 0, none⟩), .agg #[.int .i64 d.id, .int .i64 d.day, .int .i64 d.need, .slice Y d.yes.length yc, .slice N' d.no.length nc, .bool d.done], .agg #[.int .i64 d.id, .int .i64 d.day, .int .i64 d.need, .slice Y d.yes.length yc, .slice N' d.no.length nc, .bool d.done], .pointer (some ⟨p, 0, none⟩), .slice (some ⟨g, 0, none⟩) 8 8, .pointer (some ⟨p, 0, none⟩), undef, undef, undef, undef, undef, .pointer (some ⟨L, 1, none⟩), .int .i64 d.day, .pointer (some ⟨p, 0, none⟩), .slice (some ⟨g6, 0, none⟩) 6 6, undef, undef], defers := [] } : Act) ∧ MayW w0 p L A c cs d Y N' yc nc lo hi 0 #[.int .i64 0, .int .i64 0, .int .i64 0, .slice none 0 0, .slice none 0 0, .bool false] V ∧ LsW p g [1, 2, 3, 5, 9, 99, 0, 100] V ∧ LsW p g6 [0, 0, 1, 1, 2, -1] V
  | 6, a, V => ∃ (r q : Int) (j : Nat) (g6 : Nat), a = ({ tmps := #[.slice A cs.length c, undef, .pointer (some ⟨w0.heap.size, 0, none⟩), .int .i64 0, .int .i64 0, .pointer (some ⟨p, 0, none⟩), .pointer (some ⟨L, 0, none⟩), .slice A cs.length c, .agg #[.slice A cs.length c, .int .i64 0, .int .u64 0], .pointer (some ⟨p, 0, none⟩), .pointer (some ⟨p, 0, none⟩), .agg #[.int .i64 d.id, .int .i64 d.day, .int .i64 d.need, .slice Y d.yes.length yc, .slice N' d.no.length nc, .bool d.done], .agg #[.int .i64 d.id, .int .i64 d.day, .int .i64 d.need, .slice Y d.yes.length yc, .slice N' d.no.length nc, .bool d.done], .pointer (some ⟨p, 0, none⟩), undef, .pointer (some ⟨p, 0, none⟩), .int .i64 r, .int .i64 q, .int .i64 (j : Int), undef, undef, .pointer (some ⟨L, 1, none⟩), .int .i64 d.day, .pointer (some ⟨p, 0, none⟩), .slice (some ⟨g6, 0, none⟩) 6 6, undef, undef], defers := [] } : Act) ∧ MayW w0 p L A c cs d Y N' yc nc lo hi 1 #[.int .i64 0, .int .i64 0, .int .i64 0, .slice none 0 0, .slice none 0 0, .bool false] V ∧ (0 ≤ q ∧ q ≤ 2 ∧ 6 + q = (j : Int)) ∧ LsW p g6 [0, 0, 1, 1, 2, -1] V
  | 7, a, V => ∃ (g : Nat) (r q : Int) (j : Nat) (g6 : Nat), a = ({ tmps := #[.slice A cs.length c, undef, .pointer (some ⟨w0.heap.size, 0, none⟩), .int .i64 0, .int .i64 0, .pointer (some ⟨p, 0, none⟩), .pointer (some ⟨L, 0, none⟩), .slice A cs.length c, .agg #[.slice A cs.length c, .int .i64 0, .int .u64 0], .pointer (some ⟨p, 0, none⟩), .pointer (some ⟨p, 0, none⟩), .agg #[.int .i64 d.id, .int .i64 d.day, .int .i64 d.need, .slice Y d.yes.length yc, .slice N' d.no.length nc, .bool d.done], .agg #[.int .i64 d.id, .int .i64 d.day, .int .i64 d.need, .slice Y d.yes.length yc, .slice N' d.no.length nc, .bool d.done], .pointer (some ⟨p, 0, none⟩), .slice (some ⟨g, 0, none⟩) 8 8, .pointer (some ⟨p, 0, none⟩), .int .i64 r, .int .i64 q, .int .i64 (j : Int), .slice (some ⟨g, 0, none⟩) j 8, undef, .pointer (some ⟨L, 1, none⟩), .int .i64 d.day, .pointer (some ⟨p, 0, none⟩), .slice (some ⟨g6, 0, none⟩) 6 6, undef, undef], defers := [] } : Act) ∧ MayW w0 p L A c cs d Y N' yc nc lo hi 1 #[.int .i64 0, .int .i64 0, .int .i64 0, .slice none 0 0, .slice none 0 0, .bool false] V ∧ LsW p g [1, 2, 3, 5, 9, 99, 0, 100] V ∧ (0 ≤ q ∧ q ≤ 2 ∧ 6 + q = (j : Int)) ∧ LsW p g6 [0, 0, 1, 1, 2, -1] V
  | 8, a, V => ∃ (g : Nat) (r q : Int) (j : Nat) (m : Int), a = ({ tmps := #[.slice A cs.length c, undef, .pointer (some ⟨w0.heap.size, 0, none⟩), .int .i64 0, .int .i64 0, .pointer (some ⟨p, 0, none⟩), .pointer (some ⟨L, 0, none⟩), .slice A cs.length c, .agg #[.slice A cs.length c, .int .i64 0, .int .u64 0], .pointer (some ⟨p, 0, none⟩), .pointer (some ⟨p, 0, none⟩), .agg #[.int .i64 d.id, .int .i64 d.day, .int .i64 d.need, .slice Y d.yes.length yc, .slice N' d.no.length nc, .bool d.done], .agg #[.int .i64 d.id, .int .i64 d.day, .int .i64 d.need, .slice Y d.yes.length yc, .slice N' d.no.length nc, .bool d.done], .pointer (some ⟨p, 0, none⟩), .slice (some ⟨g, 0, none⟩) 8 8, .pointer (some ⟨p, 0, none⟩), .int .i64 r, .int .i64 q, .int .i64 (j : Int), .slice (some ⟨g, 0, none⟩) j 8, .int .i64 m, .pointer (some ⟨L, 1, none⟩), .int .i64 d.day, .pointer (some ⟨p, 0, none⟩), undef, undef, undef], defers := [] } : Act) ∧ MayW w0 p L A c cs d Y N' yc nc lo hi 2 #[.int .i64 0, .int .i64 0, .int .i64 0, .slice none 0 0, .slice none 0 0, .bool false] V ∧ LsW p g [1, 2, 3, 5, 9, 99, 0, 100] V ∧ (0 ≤ q ∧ q ≤ 2 ∧ 6 + q = (j : Int)) ∧ m ∈ ([1, 2, 3, 5, 9, 99, 0, 100] : List Int)
  | 9, a, V => ∃ (g : Nat) (r q : Int) (j : Nat) (g6 : Nat) (m : Int), a = ({ tmps := #[.slice A cs.length c, undef, .pointer (some ⟨w0.heap.size, 0, none⟩), .int .i64 0, .int .i64 0, .pointer (some ⟨p, 0, none⟩), .pointer (some ⟨L, 0, none⟩), .slice A cs.length c, .agg #[.slice A cs.length c, .int .i64 0, .int .u64 0], .pointer (some ⟨p, 0, none⟩), .pointer (some ⟨p, 0, none⟩), .agg #[.int .i64 d.id, .int .i64 d.day, .int .i64 d.need, .slice Y d.yes.length yc, .slice N' d.no.length nc, .bool d.done], .agg #[.int .i64 d.id, .int .i64 d.day, .int .i64 d.need, .slice Y d.yes.length yc, .slice N' d.no.length nc, .bool d.done], .pointer (some ⟨p, 0, none⟩), .slice (some ⟨g, 0, none⟩) 8 8, .pointer (some ⟨p, 0, none⟩), .int .i64 r, .int .i64 q, .int .i64 (j : Int), .slice (some ⟨g, 0, none⟩) j 8, .int .i64 m, .pointer (some ⟨L, 1, none⟩), .int .i64 d.day, .pointer (some ⟨p, 0, none⟩), .slice (some ⟨g6, 0, none⟩) 6 6, undef, undef], defers := [] } : Act) ∧ MayW w0 p L A c cs d Y N' yc nc lo hi 2 #[.int .i64 0, .int .i64 0, .int .i64 0, .slice none 0 0, .slice none 0 0, .bool false] V ∧ LsW p g [1, 2, 3, 5, 9, 99, 0, 100] V ∧ (0 ≤ q ∧ q ≤ 2 ∧ 6 + q = (j : Int)) ∧ LsW p g6 [0, 0, 1, 1, 2, -1] V ∧ m ∈ ([1, 2, 3, 5, 9, 99, 0, 100] : List Int)
  | 10, a, V => ∃ (g : Nat) (r q : Int) (j : Nat) (g6 : Nat) (m : Int) (x : Int), a = ({ tmps := #[.slice A cs.length c, undef, .pointer (some ⟨w0.heap.size, 0, none⟩), .int .i64 0, .int .i64 0, .pointer (some ⟨p, 0, none⟩), .pointer (some ⟨L, 0, none⟩), .slice A cs.length c, .agg #[.slice A cs.length c, .int .i64 0, .int .u64 0], .pointer (some ⟨p, 0, none⟩), .pointer (some ⟨p, 0, none⟩), .agg #[.int .i64 d.id, .int .i64 d.day, .int .i64 d.need, .slice Y d.yes.length yc, .slice N' d.no.length nc, .bool d.done], .agg #[.int .i64 d.id, .int .i64 d.day, .int .i64 d.need, .slice Y d.yes.length yc, .slice N' d.no.length nc, .bool d.done], .pointer (some ⟨p, 0, none⟩), .slice (some ⟨g, 0, none⟩) 8 8, .pointer (some ⟨p, 0, none⟩), .int .i64 r, .int .i64 q, .int .i64 (j : Int), .slice (some ⟨g, 0, none⟩) j 8, .int .i64 m, .pointer (some ⟨L, 1, none⟩), .int .i64 d.day, .pointer (some ⟨p, 0, none⟩), .slice (some ⟨g6, 0, none⟩) 6 6, .int .i64 x, .int .i64 (d.day + x)], defers := [] } : Act) ∧ MayW w0 p L A c cs d Y N' yc nc lo hi 3 #[.int .i64 0, .int .i64 0, .int .i64 0, .slice none 0 0, .slice none 0 0, .bool false] V ∧ LsW p g [1, 2, 3, 5, 9, 99, 0, 100] V ∧ (0 ≤ q ∧ q ≤ 2 ∧ 6 + q = (j : Int)) ∧ LsW p g6 [0, 0, 1, 1, 2, -1] V ∧ m ∈ ([1, 2, 3, 5, 9, 99, 0, 100] : List Int) ∧ x ∈ ([0, 0, 1, 1, 2, -1] : List Int)
  | _, a, V => ∃ (g : Nat) (r q : Int) (j : Nat) (g6 : Nat) (m : Int) (x : Int), a = ({ tmps := #[.slice A cs.length c, undef, .pointer (some ⟨w0.heap.size, 0, none⟩), .int .i64 m, .int .i64 (d.day + x), .pointer (some ⟨p, 0, none⟩), .pointer (some ⟨L, 0, none⟩), .slice A cs.length c, .agg #[.slice A cs.length c, .int .i64 0, .int .u64 0], .pointer (some ⟨p, 0, none⟩), .pointer (some ⟨p, 0, none⟩), .agg #[.int .i64 d.id, .int .i64 d.day, .int .i64 d.need, .slice Y d.yes.length yc, .slice N' d.no.length nc, .bool d.done], .agg #[.int .i64 d.id, .int .i64 d.day, .int .i64 d.need, .slice Y d.yes.length yc, .slice N' d.no.length nc, .bool d.done], .pointer (some ⟨p, 0, none⟩), .slice (some ⟨g, 0, none⟩) 8 8, .pointer (some ⟨p, 0, none⟩), .int .i64 r, .int .i64 q, .int .i64 (j : Int), .slice (some ⟨g, 0, none⟩) j 8, .int .i64 m, .pointer (some ⟨L, 1, none⟩), .int .i64 d.day, .pointer (some ⟨p, 0, none⟩), .slice (some ⟨g6, 0, none⟩) 6 6, .int .i64 x, .int .i64 (d.day + x)], defers := [] } : Act) ∧ MayF w0 p L d Y N' yc nc lo hi #[.int .i64 d.id, .int .i64 d.day, .int .i64 d.need, .slice Y d.yes.length yc, .slice N' d.no.length nc, .bool d.done] V ∧ (0 ≤ q ∧ q ≤ 2 ∧ 6 + q = (j : Int)) ∧ m ∈ ([1, 2, 3, 5, 9, 99, 0, 100] : List Int) ∧ x ∈ ([0, 0, 1, 1, 2, -1] : List Int)
theorem mayJ_bl {w0 : World} {p L : Nat} {A : Option Addr} {c : Nat} {cs : List UInt8} {d : Dec} {Y N' : Option Addr} {yc nc lo hi : Nat} : ∀ {s : Nat} {a : Act} {V : World}, mayJ w0 p L A c cs d Y N' yc nc lo hi s a V → Blk V L 35 #[.int .i64 d.id, .int .i64 d.day, .int .i64 d.need, .slice Y d.yes.length yc, .slice N' d.no.length nc, .bool d.done] := by
  intro s a V h
  unfold mayJ at h
  split at h
  · obtain ⟨rfl, hM⟩ := h; exact hM.bl
  · obtain ⟨g, rfl, hM, hL8⟩ := h; exact hM.bl
  · obtain ⟨r, q, j, rfl, hM, hq⟩ := h; exact hM.bl
  · obtain ⟨g, r, q, j, rfl, hM, hL8, hq⟩ := h; exact hM.bl
  · obtain ⟨g6, rfl, hM, hL6⟩ := h; exact hM.bl
  · obtain ⟨g, g6, rfl, hM, hL8, hL6⟩ := h; exact hM.bl
  · obtain ⟨r, q, j, g6, rfl, hM, hq, hL6⟩ := h; exact hM.bl
  · obtain ⟨g, r, q, j, g6, rfl, hM, hL8, hq, hL6⟩ := h; exact hM.bl
  · obtain ⟨g, r, q, j, m, rfl, hM, hL8, hq, hm⟩ := h; exact hM.bl
  · obtain ⟨g, r, q, j, g6, m, rfl, hM, hL8, hq, hL6, hm⟩ := h; exact hM.bl
  · obtain ⟨g, r, q, j, g6, m, x, rfl, hM, hL8, hq, hL6, hm, hx⟩ := h; exact hM.bl
  · obtain ⟨g, r, q, j, g6, m, x, rfl, hM, hq, hm, hx⟩ := h; exact hM.bl
set_option maxHeartbeats 4000000 in
set_option maxRecDepth 100000 in
theorem drawMay_is (A : Option Addr) (c : Nat) (cs : List UInt8) (hcs : cs.length ≤ 1048576) (w : World) (hR : Rds 1 u8C w A cs) :
  Calls Tryd.prog 26 #[.slice A cs.length c] w fun e w' => ∃ (d : Dec) (Y N' : Option Addr) (yc nc : Nat) (m t : Int), e = .returned (.tuple #[.agg #[.int .i64 d.id, .int .i64 d.day, .int .i64 d.need, .slice Y d.yes.length yc, .slice N' d.no.length nc, .bool d.done], .int .i64 m, .int .i64 t]) ∧
    d.yes.length ≤ 40 ∧ d.no.length ≤ 40 ∧ (-10 ≤ m ∧ m ≤ 4000) ∧ (-100 ≤ t ∧ t ≤ 8000) ∧ Seg w.heap.size w'.heap.size w' Y yc d.yes ∧ Seg w.heap.size w'.heap.size w' N' nc d.no ∧ Below w.heap.size w w' := by
  go_enter Tryd.func26, Tryd.ntmps26
  go_upto_region 2 with fail
  have hlt : ∀ ad, A = some ad → 0 < cs.length → ad.block < w.heap.size := fun ad h h0 => by
    obtain ⟨b, off, h1, h2, _⟩ := hR h0
    rw [h1] at h; cases h; exact h2
  have hZ := (Blk.new w 35 #[.int .i64 0, .int .i64 0, .int .i64 0, .slice none 0 0, .slice none 0 0, .bool false]).alloc (.cells #[.slice A cs.length c, .int .i64 0, .int .u64 0] 68)
  have hP := Blk.new2 w (.cells #[.int .i64 0, .int .i64 0, .int .i64 0, .slice none 0 0, .slice none 0 0, .bool false] 35) 68 #[.slice A cs.length c, .int .i64 0, .int .u64 0]
  have HB : Below w.heap.size w ((w.alloc (.cells #[.int .i64 0, .int .i64 0, .int .i64 0, .slice none 0 0, .slice none 0 0, .bool false] 35)).alloc (.cells #[.slice A cs.length c, .int .i64 0, .int .u64 0] 68)) := bl2 w _ _
  generalize ((w.alloc (.cells #[.int .i64 0, .int .i64 0, .int .i64 0, .slice none 0 0, .slice none 0 0, .bool false] 35)).alloc (.cells #[.slice A cs.length c, .int .i64 0, .int .u64 0] 68)) = wA at *
  have hC : Cur wA (w.heap.size + 1) A c cs 0 := ⟨⟨0, 0, hP, by decide, by decide⟩, hR.below HB, fun ad h h0 => by have := hlt ad h h0; omega⟩
  have hPl := hP.lt
  obtain ⟨p, hpe⟩ : ∃ p, p = w.heap.size + 1 := ⟨_, rfl⟩
  rw [← hpe] at hC hPl
  obtain ⟨n0, hn0⟩ : ∃ n : Nat, n ≤ 0 := ⟨0, Nat.le_refl _⟩
  replace hC : Cur wA p A c cs n0 := hC.mono (Nat.zero_le _)
  simp only [← hpe]
  have hp := hC.lt
  have HG := grown_refl w (some p)
  replace HG : w.grownBy wA (some p) := below_grown HB _
  have szw : w.heap.size ≤ wA.heap.size := HB.size
  have hwp : w.heap.size < p := by omega
  clear hR hlt hP HB hpe
  have z0 := (hZ.cell 0).trans (show _ = some (.int .i64 0) from rfl)
  have z1 := (hZ.cell 1).trans (show _ = some (.int .i64 0) from rfl)
  have z2 := (hZ.cell 2).trans (show _ = some (.int .i64 0) from rfl)
  have z3 := (hZ.cell 3).trans (show _ = some (.slice none 0 0) from rfl)
  have z4 := (hZ.cell 4).trans (show _ = some (.slice none 0 0) from rfl)
  have z5 := (hZ.cell 5).trans (show _ = some (.bool false) from rfl)
  go_wp2_with fail
  refine (decided_is p A c cs hcs n0 (by omega) _ (hC.later (by repeat (first | exact Below.refl _ _ | refine Below.alloc ?_ (by first | exact Nat.le_refl _ | (simp <;> omega)) _ | refine Below.setCell ?_ (by first | exact Nat.le_refl _ | (simp <;> omega)) _)))).mono ?_
  rintro e w1 ⟨d, Y, N', yc, nc, rfl, hly, hln, ⟨_, hday, _⟩, hYs, hNs, hS1⟩
  clear z0 z1 z2 z3 z4 z5
  have hg1 : wA.grownBy w1 (some p) := grown_tr (below_grown (by repeat (first | exact Below.refl _ _ | refine Below.alloc ?_ (by first | exact Nat.le_refl _ | (simp <;> omega)) _ | refine Below.setCell ?_ (by first | exact Nat.le_refl _ | (simp <;> omega)) _)) _) hS1.2
  replace hC := hS1.1
  have sz1 := hg1.size
  replace HG := grown_tr HG hg1
  replace hZ := hZ.grownB hg1 (by omega)
  have z0 := (hZ.cell 0).trans (show _ = some (.int .i64 0) from rfl)
  have z1 := (hZ.cell 1).trans (show _ = some (.int .i64 0) from rfl)
  have z2 := (hZ.cell 2).trans (show _ = some (.int .i64 0) from rfl)
  have z3 := (hZ.cell 3).trans (show _ = some (.slice none 0 0) from rfl)
  have z4 := (hZ.cell 4).trans (show _ = some (.slice none 0 0) from rfl)
  have z5 := (hZ.cell 5).trans (show _ = some (.bool false) from rfl)
  go_upto_region 3 with fail
  have hb2 : Below w1.heap.size w1 (World.alloc w1 (.cells #[.int .i64 d.id, .int .i64 d.day, .int .i64 d.need, .slice Y d.yes.length yc, .slice N' d.no.length nc, .bool d.done] 35)) := bl1 w1 _
  have hL : Blk (World.alloc w1 (.cells #[.int .i64 d.id, .int .i64 d.day, .int .i64 d.need, .slice Y d.yes.length yc, .slice N' d.no.length nc, .bool d.done] 35)) (w1.heap.size) 35 #[.int .i64 d.id, .int .i64 d.day, .int .i64 d.need, .slice Y d.yes.length yc, .slice N' d.no.length nc, .bool d.done] := by repeat (first | exact Blk.new _ _ _ | exact Blk.new2 _ _ _ _ | exact Blk.new3 _ _ _ _ _ | exact Blk.new4 _ _ _ _ _ _ | refine Blk.alloc ?_ _)
  generalize World.alloc w1 (.cells #[.int .i64 d.id, .int .i64 d.day, .int .i64 d.need, .slice Y d.yes.length yc, .slice N' d.no.length nc, .bool d.done] 35) = wL at *
  replace hC := hC.later hb2
  replace HG := grown_tr HG (below_grown hb2 (some p))
  clear z0 z1 z2 z3 z4 z5
  replace hZ := hZ.grownB (below_grown hb2 (some p)) (by omega)
  have z0 := (hZ.cell 0).trans (show _ = some (.int .i64 0) from rfl)
  have z1 := (hZ.cell 1).trans (show _ = some (.int .i64 0) from rfl)
  have z2 := (hZ.cell 2).trans (show _ = some (.int .i64 0) from rfl)
  have z3 := (hZ.cell 3).trans (show _ = some (.slice none 0 0) from rfl)
  have z4 := (hZ.cell 4).trans (show _ = some (.slice none 0 0) from rfl)
  have z5 := (hZ.cell 5).trans (show _ = some (.bool false) from rfl)
  replace hYs := hYs.kept (below_grown hb2 (some p)) (fun k hk => by have h2 := Option.some.inj hk; omega)
  replace hNs := hNs.kept (below_grown hb2 (some p)) (fun k hk => by have h2 := Option.some.inj hk; omega)
  have sz2 := hb2.size
  have LhL := hL.lt
  have l0 := (hL.cell 0).trans (show _ = some (.int .i64 d.id) from rfl)
  have l1 := (hL.cell 1).trans (show _ = some (.int .i64 d.day) from rfl)
  have l2 := (hL.cell 2).trans (show _ = some (.int .i64 d.need) from rfl)
  have l3 := (hL.cell 3).trans (show _ = some (.slice Y d.yes.length yc) from rfl)
  have l4 := (hL.cell 4).trans (show _ = some (.slice N' d.no.length nc) from rfl)
  have l5 := (hL.cell 5).trans (show _ = some (.bool d.done) from rfl)
  clear l0 l1 l2 l3 l4 l5 z0 z1 z2 z3 z4 z5
  haveI : Nonempty (Hld (fun V => Blk V w1.heap.size 35 #[.int .i64 d.id, .int .i64 d.day, .int .i64 d.need, .slice Y d.yes.length yc, .slice N' d.no.length nc, .bool d.done])) := ⟨⟨wL, hL⟩⟩
  have k0 := fun K : Hld (fun V => Blk V w1.heap.size 35 #[.int .i64 d.id, .int .i64 d.day, .int .i64 d.need, .slice Y d.yes.length yc, .slice N' d.no.length nc, .bool d.done]) => (K.holds.cell 0).trans (show _ = some (.int .i64 d.id) from rfl)
  have k1 := fun K : Hld (fun V => Blk V w1.heap.size 35 #[.int .i64 d.id, .int .i64 d.day, .int .i64 d.need, .slice Y d.yes.length yc, .slice N' d.no.length nc, .bool d.done]) => (K.holds.cell 1).trans (show _ = some (.int .i64 d.day) from rfl)
  have k2 := fun K : Hld (fun V => Blk V w1.heap.size 35 #[.int .i64 d.id, .int .i64 d.day, .int .i64 d.need, .slice Y d.yes.length yc, .slice N' d.no.length nc, .bool d.done]) => (K.holds.cell 2).trans (show _ = some (.int .i64 d.need) from rfl)
  have k3 := fun K : Hld (fun V => Blk V w1.heap.size 35 #[.int .i64 d.id, .int .i64 d.day, .int .i64 d.need, .slice Y d.yes.length yc, .slice N' d.no.length nc, .bool d.done]) => (K.holds.cell 3).trans (show _ = some (.slice Y d.yes.length yc) from rfl)
  have k4 := fun K : Hld (fun V => Blk V w1.heap.size 35 #[.int .i64 d.id, .int .i64 d.day, .int .i64 d.need, .slice Y d.yes.length yc, .slice N' d.no.length nc, .bool d.done]) => (K.holds.cell 4).trans (show _ = some (.slice N' d.no.length nc) from rfl)
  have k5 := fun K : Hld (fun V => Blk V w1.heap.size 35 #[.int .i64 d.id, .int .i64 d.day, .int .i64 d.need, .slice Y d.yes.length yc, .slice N' d.no.length nc, .bool d.done]) => (K.holds.cell 5).trans (show _ = some (.bool d.done) from rfl)
  have hM0 : MayW w p w1.heap.size A c cs d Y N' yc nc wA.heap.size w1.heap.size 0 #[.int .i64 0, .int .i64 0, .int .i64 0, .slice none 0 0, .slice none 0 0, .bool false] wL.drew := (show MayW w p w1.heap.size A c cs d Y N' yc nc wA.heap.size w1.heap.size 0 #[.int .i64 0, .int .i64 0, .int .i64 0, .slice none 0 0, .slice none 0 0, .bool false] wL from ⟨⟨_, by omega, hC⟩, HG, hL, hZ, hYs, hNs, by omega, by omega, hwp, by omega⟩).below (Below.refl _ _).drew
  refine wp_region_dag (fun V => Blk V w1.heap.size 35 #[.int .i64 d.id, .int .i64 d.day, .int .i64 d.need, .slice Y d.yes.length yc, .slice N' d.no.length nc, .bool d.done]) [0, 1, 3, 9, 10, 11] 12 mayLst mayNxt (mayJ w p w1.heap.size A c cs d Y N' yc nc wA.heap.size w1.heap.size) (by kernel_rfl) (by kernel_rfl) hL (fun s a V h => ?_) ?_ ?_ ?_
  · exact mayJ_bl h
  · change wpQuiet _ _ _ _ (_ :: _ :: _ :: _ :: _ :: _ :: []) _
    repeat (go_big_quiet_step (fail))
    refine wpQuiet_nil ?_
    exact ⟨rfl, hM0⟩
  · clear hM0 hL hZ hYs hNs HG hC
    intro s hs e he a V hJ
    have hsc : s = 0 ∨ s = 1 ∨ s = 2 ∨ s = 3 ∨ s = 4 ∨ s = 5 ∨ s = 6 ∨ s = 7 ∨ s = 8 ∨ s = 9 ∨ s = 10 ∨ s = 11 := by omega
    clear hs
    rcases hsc with rfl | rfl | rfl | rfl | rfl | rfl | rfl | rfl | rfl | rfl | rfl | rfl
    · simp only [mayNxt, List.mem_cons, List.not_mem_nil, or_false] at he
      rcases he with rfl | rfl | rfl
      · obtain ⟨rfl, hM⟩ := hJ
        change wpList _ _ _ (_ :: []) _ _
        go_wp2
        have hM2 := hM.alloc (.cells #[.int .i64 1, .int .i64 2, .int .i64 3, .int .i64 5, .int .i64 9, .int .i64 99, .int .i64 0, .int .i64 100] 3)
        have hL8' : LsW p V.heap.size [1, 2, 3, 5, 9, 99, 0, 100] (V.alloc (Obj.cells #[.int .i64 1, .int .i64 2, .int .i64 3, .int .i64 5, .int .i64 9, .int .i64 99, .int .i64 0, .int .i64 100] 3)) := (LsW.made (Nat.lt_trans hM.pl hM.bl.lt) [1, 2, 3, 5, 9, 99, 0, 100] (by decide))
        refine ⟨rfl, hM2.bl, ?_⟩
        exact ⟨_, rfl, hM2, hL8'⟩
      · obtain ⟨rfl, hM⟩ := hJ
        change wpList _ _ _ (_ :: []) _ _
        go_wp2_with fail
        obtain ⟨N, hN, hC⟩ := hM.cur
        refine (pick_is 24 p A c cs hcs N (by omega) (by decide) _ hC).mono ?_
        rintro e9 w9 ⟨r, rfl, ⟨hr0, _, hr1⟩, hS⟩
        have hr2 := hr1 (by decide)
        have hd0 : 0 ≤ r / 11 := by omega
        have hd1 : 0 ≤ r / 11 ∧ r / 11 ≤ 2 := by omega
        obtain ⟨j, hj⟩ : ∃ j : Nat, 6 + r / 11 = (j : Int) := ⟨(6 + r / 11).toNat, by omega⟩
        go_wp2
        have hM2 := (hM.step (k' := 1) hS (by omega))
        refine ⟨rfl, hM2.bl, ?_⟩
        change wpQuiet _ _ _ _ (_ :: _ :: []) _
        repeat (go_big_quiet_step (fail))
        refine wpQuiet_nil ?_
        exact ⟨_, _, j, rfl, hM2, ⟨hd1.1, hd1.2, hj⟩⟩
      · obtain ⟨rfl, hM⟩ := hJ
        change wpList _ _ _ (_ :: []) _ _
        go_wp2
        have hM2 := hM.alloc (.cells #[.int .i64 0, .int .i64 0, .int .i64 1, .int .i64 1, .int .i64 2, .int .i64 (-1)] 3)
        have hL6' : LsW p V.heap.size [0, 0, 1, 1, 2, -1] (V.alloc (Obj.cells #[.int .i64 0, .int .i64 0, .int .i64 1, .int .i64 1, .int .i64 2, .int .i64 (-1)] 3)) := (LsW.made (Nat.lt_trans hM.pl hM.bl.lt) [0, 0, 1, 1, 2, -1] (by decide))
        refine ⟨rfl, hM2.bl, ?_⟩
        exact ⟨_, rfl, hM2, hL6'⟩
    · simp only [mayNxt, List.mem_cons, List.not_mem_nil, or_false] at he
      rcases he with rfl | rfl
      · obtain ⟨g, rfl, hM, hL8⟩ := hJ
        change wpList _ _ _ (_ :: []) _ _
        go_wp2_with fail
        obtain ⟨N, hN, hC⟩ := hM.cur
        refine (pick_is 24 p A c cs hcs N (by omega) (by decide) _ hC).mono ?_
        rintro e9 w9 ⟨r, rfl, ⟨hr0, _, hr1⟩, hS⟩
        have hr2 := hr1 (by decide)
        have hd0 : 0 ≤ r / 11 := by omega
        have hd1 : 0 ≤ r / 11 ∧ r / 11 ≤ 2 := by omega
        obtain ⟨j, hj⟩ : ∃ j : Nat, 6 + r / 11 = (j : Int) := ⟨(6 + r / 11).toNat, by omega⟩
        go_wp2
        have hM2 := (hM.step (k' := 1) hS (by omega))
        have hL8' := (hL8.step hS)
        refine ⟨rfl, hM2.bl, ?_⟩
        change wpQuiet _ _ _ _ (_ :: _ :: _ :: []) _
        repeat (go_big_quiet_step (fail))
        refine wpQuiet_nil ?_
        exact ⟨g, _, _, j, rfl, hM2, hL8', ⟨hd1.1, hd1.2, hj⟩⟩
      · obtain ⟨g, rfl, hM, hL8⟩ := hJ
        change wpList _ _ _ (_ :: []) _ _
        go_wp2
        have hM2 := hM.alloc (.cells #[.int .i64 0, .int .i64 0, .int .i64 1, .int .i64 1, .int .i64 2, .int .i64 (-1)] 3)
        have hL8' : LsW p g [1, 2, 3, 5, 9, 99, 0, 100] (V.alloc (Obj.cells #[.int .i64 0, .int .i64 0, .int .i64 1, .int .i64 1, .int .i64 2, .int .i64 (-1)] 3)) := (hL8.alloc (Obj.cells #[.int .i64 0, .int .i64 0, .int .i64 1, .int .i64 1, .int .i64 2, .int .i64 (-1)] 3))
        have hL6' : LsW p V.heap.size [0, 0, 1, 1, 2, -1] (V.alloc (Obj.cells #[.int .i64 0, .int .i64 0, .int .i64 1, .int .i64 1, .int .i64 2, .int .i64 (-1)] 3)) := (LsW.made (Nat.lt_trans hM.pl hM.bl.lt) [0, 0, 1, 1, 2, -1] (by decide))
        refine ⟨rfl, hM2.bl, ?_⟩
        exact ⟨g, _, rfl, hM2, hL8', hL6'⟩
    · simp only [mayNxt, List.mem_cons, List.not_mem_nil, or_false] at he
      rcases he with rfl | rfl
      · obtain ⟨r, q, j, rfl, hM, hq⟩ := hJ
        change wpList _ _ _ (_ :: []) _ _
        go_wp2
        have hM2 := hM.alloc (.cells #[.int .i64 1, .int .i64 2, .int .i64 3, .int .i64 5, .int .i64 9, .int .i64 99, .int .i64 0, .int .i64 100] 3)
        have hL8' : LsW p V.heap.size [1, 2, 3, 5, 9, 99, 0, 100] (V.alloc (Obj.cells #[.int .i64 1, .int .i64 2, .int .i64 3, .int .i64 5, .int .i64 9, .int .i64 99, .int .i64 0, .int .i64 100] 3)) := (LsW.made (Nat.lt_trans hM.pl hM.bl.lt) [1, 2, 3, 5, 9, 99, 0, 100] (by decide))
        refine ⟨rfl, hM2.bl, ?_⟩
        change wpQuiet _ _ _ _ (_ :: []) _
        repeat (go_big_quiet_step (fail))
        refine wpQuiet_nil ?_
        exact ⟨_, r, q, j, rfl, hM2, hL8', hq⟩
      · obtain ⟨r, q, j, rfl, hM, hq⟩ := hJ
        change wpList _ _ _ (_ :: []) _ _
        go_wp2
        have hM2 := hM.alloc (.cells #[.int .i64 0, .int .i64 0, .int .i64 1, .int .i64 1, .int .i64 2, .int .i64 (-1)] 3)
        have hL6' : LsW p V.heap.size [0, 0, 1, 1, 2, -1] (V.alloc (Obj.cells #[.int .i64 0, .int .i64 0, .int .i64 1, .int .i64 1, .int .i64 2, .int .i64 (-1)] 3)) := (LsW.made (Nat.lt_trans hM.pl hM.bl.lt) [0, 0, 1, 1, 2, -1] (by decide))
        refine ⟨rfl, hM2.bl, ?_⟩
        exact ⟨r, q, j, _, rfl, hM2, hq, hL6'⟩
    · simp only [mayNxt, List.mem_cons, List.not_mem_nil, or_false] at he
      rcases he with rfl | rfl
      · obtain ⟨g, r, q, j, rfl, hM, hL8, hq⟩ := hJ
        change wpList _ _ _ (_ :: []) _ _
        go_wp2_with fail
        obtain ⟨N, hN, hC⟩ := hM.cur
        refine (among_preV (some ⟨g, 0, none⟩) 8 [1, 2, 3, 5, 9, 99, 0, 100] j (by omega) (by simp; omega) (by simp) p A c cs hcs N (by omega) _ hC hL8.rds (fun ad h _ => by cases h; have := hL8.gt; show g ≠ p; omega)).mono ?_
        rintro e9 w9 ⟨m, rfl, hm, hS⟩
        go_wp2
        have hM2 := (hM.step (k' := 2) hS (by omega))
        have hL8' := (hL8.step hS)
        refine ⟨rfl, hM2.bl, ?_⟩
        exact ⟨g, r, q, j, m, rfl, hM2, hL8', hq, hm⟩
      · obtain ⟨g, r, q, j, rfl, hM, hL8, hq⟩ := hJ
        change wpList _ _ _ (_ :: []) _ _
        go_wp2
        have hM2 := hM.alloc (.cells #[.int .i64 0, .int .i64 0, .int .i64 1, .int .i64 1, .int .i64 2, .int .i64 (-1)] 3)
        have hL8' : LsW p g [1, 2, 3, 5, 9, 99, 0, 100] (V.alloc (Obj.cells #[.int .i64 0, .int .i64 0, .int .i64 1, .int .i64 1, .int .i64 2, .int .i64 (-1)] 3)) := (hL8.alloc (Obj.cells #[.int .i64 0, .int .i64 0, .int .i64 1, .int .i64 1, .int .i64 2, .int .i64 (-1)] 3))
        have hL6' : LsW p V.heap.size [0, 0, 1, 1, 2, -1] (V.alloc (Obj.cells #[.int .i64 0, .int .i64 0, .int .i64 1, .int .i64 1, .int .i64 2, .int .i64 (-1)] 3)) := (LsW.made (Nat.lt_trans hM.pl hM.bl.lt) [0, 0, 1, 1, 2, -1] (by decide))
        refine ⟨rfl, hM2.bl, ?_⟩
        exact ⟨g, r, q, j, _, rfl, hM2, hL8', hq, hL6'⟩
    · simp only [mayNxt, List.mem_cons, List.not_mem_nil, or_false] at he
      rcases he with rfl | rfl
      · obtain ⟨g6, rfl, hM, hL6⟩ := hJ
        change wpList _ _ _ (_ :: []) _ _
        go_wp2
        have hM2 := hM.alloc (.cells #[.int .i64 1, .int .i64 2, .int .i64 3, .int .i64 5, .int .i64 9, .int .i64 99, .int .i64 0, .int .i64 100] 3)
        have hL8' : LsW p V.heap.size [1, 2, 3, 5, 9, 99, 0, 100] (V.alloc (Obj.cells #[.int .i64 1, .int .i64 2, .int .i64 3, .int .i64 5, .int .i64 9, .int .i64 99, .int .i64 0, .int .i64 100] 3)) := (LsW.made (Nat.lt_trans hM.pl hM.bl.lt) [1, 2, 3, 5, 9, 99, 0, 100] (by decide))
        have hL6' : LsW p g6 [0, 0, 1, 1, 2, -1] (V.alloc (Obj.cells #[.int .i64 1, .int .i64 2, .int .i64 3, .int .i64 5, .int .i64 9, .int .i64 99, .int .i64 0, .int .i64 100] 3)) := (hL6.alloc (Obj.cells #[.int .i64 1, .int .i64 2, .int .i64 3, .int .i64 5, .int .i64 9, .int .i64 99, .int .i64 0, .int .i64 100] 3))
        refine ⟨rfl, hM2.bl, ?_⟩
        exact ⟨_, g6, rfl, hM2, hL8', hL6'⟩
      · obtain ⟨g6, rfl, hM, hL6⟩ := hJ
        change wpList _ _ _ (_ :: []) _ _
        go_wp2_with fail
        obtain ⟨N, hN, hC⟩ := hM.cur
        refine (pick_is 24 p A c cs hcs N (by omega) (by decide) _ hC).mono ?_
        rintro e9 w9 ⟨r, rfl, ⟨hr0, _, hr1⟩, hS⟩
        have hr2 := hr1 (by decide)
        have hd0 : 0 ≤ r / 11 := by omega
        have hd1 : 0 ≤ r / 11 ∧ r / 11 ≤ 2 := by omega
        obtain ⟨j, hj⟩ : ∃ j : Nat, 6 + r / 11 = (j : Int) := ⟨(6 + r / 11).toNat, by omega⟩
        go_wp2
        have hM2 := (hM.step (k' := 1) hS (by omega))
        have hL6' := (hL6.step hS)
        refine ⟨rfl, hM2.bl, ?_⟩
        change wpQuiet _ _ _ _ (_ :: _ :: []) _
        repeat (go_big_quiet_step (fail))
        refine wpQuiet_nil ?_
        exact ⟨_, _, j, g6, rfl, hM2, ⟨hd1.1, hd1.2, hj⟩, hL6'⟩
    · simp only [mayNxt, List.mem_cons, List.not_mem_nil, or_false] at he
      subst he
      · obtain ⟨g, g6, rfl, hM, hL8, hL6⟩ := hJ
        change wpList _ _ _ (_ :: []) _ _
        go_wp2_with fail
        obtain ⟨N, hN, hC⟩ := hM.cur
        refine (pick_is 24 p A c cs hcs N (by omega) (by decide) _ hC).mono ?_
        rintro e9 w9 ⟨r, rfl, ⟨hr0, _, hr1⟩, hS⟩
        have hr2 := hr1 (by decide)
        have hd0 : 0 ≤ r / 11 := by omega
        have hd1 : 0 ≤ r / 11 ∧ r / 11 ≤ 2 := by omega
        obtain ⟨j, hj⟩ : ∃ j : Nat, 6 + r / 11 = (j : Int) := ⟨(6 + r / 11).toNat, by omega⟩
        go_wp2
        have hM2 := (hM.step (k' := 1) hS (by omega))
        have hL8' := (hL8.step hS)
        have hL6' := (hL6.step hS)
        refine ⟨rfl, hM2.bl, ?_⟩
        change wpQuiet _ _ _ _ (_ :: _ :: _ :: []) _
        repeat (go_big_quiet_step (fail))
        refine wpQuiet_nil ?_
        exact ⟨g, _, _, j, g6, rfl, hM2, hL8', ⟨hd1.1, hd1.2, hj⟩, hL6'⟩
    · simp only [mayNxt, List.mem_cons, List.not_mem_nil, or_false] at he
      subst he
      · obtain ⟨r, q, j, g6, rfl, hM, hq, hL6⟩ := hJ
        change wpList _ _ _ (_ :: []) _ _
        go_wp2
        have hM2 := hM.alloc (.cells #[.int .i64 1, .int .i64 2, .int .i64 3, .int .i64 5, .int .i64 9, .int .i64 99, .int .i64 0, .int .i64 100] 3)
        have hL8' : LsW p V.heap.size [1, 2, 3, 5, 9, 99, 0, 100] (V.alloc (Obj.cells #[.int .i64 1, .int .i64 2, .int .i64 3, .int .i64 5, .int .i64 9, .int .i64 99, .int .i64 0, .int .i64 100] 3)) := (LsW.made (Nat.lt_trans hM.pl hM.bl.lt) [1, 2, 3, 5, 9, 99, 0, 100] (by decide))
        have hL6' : LsW p g6 [0, 0, 1, 1, 2, -1] (V.alloc (Obj.cells #[.int .i64 1, .int .i64 2, .int .i64 3, .int .i64 5, .int .i64 9, .int .i64 99, .int .i64 0, .int .i64 100] 3)) := (hL6.alloc (Obj.cells #[.int .i64 1, .int .i64 2, .int .i64 3, .int .i64 5, .int .i64 9, .int .i64 99, .int .i64 0, .int .i64 100] 3))
        refine ⟨rfl, hM2.bl, ?_⟩
        change wpQuiet _ _ _ _ (_ :: []) _
        repeat (go_big_quiet_step (fail))
        refine wpQuiet_nil ?_
        exact ⟨_, r, q, j, g6, rfl, hM2, hL8', hq, hL6'⟩
    · simp only [mayNxt, List.mem_cons, List.not_mem_nil, or_false] at he
      subst he
      · obtain ⟨g, r, q, j, g6, rfl, hM, hL8, hq, hL6⟩ := hJ
        change wpList _ _ _ (_ :: []) _ _
        go_wp2_with fail
        obtain ⟨N, hN, hC⟩ := hM.cur
        refine (among_preV (some ⟨g, 0, none⟩) 8 [1, 2, 3, 5, 9, 99, 0, 100] j (by omega) (by simp; omega) (by simp) p A c cs hcs N (by omega) _ hC hL8.rds (fun ad h _ => by cases h; have := hL8.gt; show g ≠ p; omega)).mono ?_
        rintro e9 w9 ⟨m, rfl, hm, hS⟩
        go_wp2
        have hM2 := (hM.step (k' := 2) hS (by omega))
        have hL8' := (hL8.step hS)
        have hL6' := (hL6.step hS)
        refine ⟨rfl, hM2.bl, ?_⟩
        exact ⟨g, r, q, j, g6, m, rfl, hM2, hL8', hq, hL6', hm⟩
    · simp only [mayNxt, List.mem_cons, List.not_mem_nil, or_false] at he
      subst he
      · obtain ⟨g, r, q, j, m, rfl, hM, hL8, hq, hm⟩ := hJ
        change wpList _ _ _ (_ :: []) _ _
        go_wp2
        have hM2 := hM.alloc (.cells #[.int .i64 0, .int .i64 0, .int .i64 1, .int .i64 1, .int .i64 2, .int .i64 (-1)] 3)
        have hL8' : LsW p g [1, 2, 3, 5, 9, 99, 0, 100] (V.alloc (Obj.cells #[.int .i64 0, .int .i64 0, .int .i64 1, .int .i64 1, .int .i64 2, .int .i64 (-1)] 3)) := (hL8.alloc (Obj.cells #[.int .i64 0, .int .i64 0, .int .i64 1, .int .i64 1, .int .i64 2, .int .i64 (-1)] 3))
        have hL6' : LsW p V.heap.size [0, 0, 1, 1, 2, -1] (V.alloc (Obj.cells #[.int .i64 0, .int .i64 0, .int .i64 1, .int .i64 1, .int .i64 2, .int .i64 (-1)] 3)) := (LsW.made (Nat.lt_trans hM.pl hM.bl.lt) [0, 0, 1, 1, 2, -1] (by decide))
        refine ⟨rfl, hM2.bl, ?_⟩
        exact ⟨g, r, q, j, _, m, rfl, hM2, hL8', hq, hL6', hm⟩
    · simp only [mayNxt, List.mem_cons, List.not_mem_nil, or_false] at he
      subst he
      · obtain ⟨g, r, q, j, g6, m, rfl, hM, hL8, hq, hL6, hm⟩ := hJ
        change wpList _ _ _ (_ :: []) _ _
        go_wp2_with fail
        obtain ⟨N, hN, hC⟩ := hM.cur
        refine (among_is (some ⟨g6, 0, none⟩) 6 [0, 0, 1, 1, 2, -1] (by decide) (by decide) p A c cs hcs N (by omega) _ hC hL6.rds (fun ad h _ => by cases h; have := hL6.gt; show g6 ≠ p; omega)).mono ?_
        rintro e9 w9 ⟨x, rfl, hx, hS⟩
        have hxb : -1 ≤ x ∧ x ≤ 2 := by simp only [List.mem_cons, List.not_mem_nil, or_false] at hx; omega
        go_wp2
        have hM2 := (hM.step (k' := 3) hS (by omega))
        have hL8' := (hL8.step hS)
        have hL6' := (hL6.step hS)
        refine ⟨rfl, hM2.bl, ?_⟩
        change wpQuiet _ _ _ _ (_ :: []) _
        repeat (go_big_quiet_step (fail))
        refine wpQuiet_nil ?_
        exact ⟨g, r, q, j, g6, m, x, rfl, hM2, hL8', hq, hL6', hm, hx⟩
    · simp only [mayNxt, List.mem_cons, List.not_mem_nil, or_false] at he
      subst he
      · obtain ⟨g, r, q, j, g6, m, x, rfl, hM, hL8, hq, hL6, hm, hx⟩ := hJ
        change wpList _ _ _ (_ :: []) _ _
        have fz0 := hM.bz.frozen 0
        have fz1 := hM.bz.frozen 1
        have fz2 := hM.bz.frozen 2
        have fz3 := hM.bz.frozen 3
        have fz4 := hM.bz.frozen 4
        have fz5 := hM.bz.frozen 5
        have yz := hM.bz.lt
        have z0 := (hM.bz.cell 0).trans (show _ = some (.int .i64 0) from rfl)
        have z1 := (hM.bz.cell 1).trans (show _ = some (.int .i64 0) from rfl)
        have z2 := (hM.bz.cell 2).trans (show _ = some (.int .i64 0) from rfl)
        have z3 := (hM.bz.cell 3).trans (show _ = some (.slice none 0 0) from rfl)
        have z4 := (hM.bz.cell 4).trans (show _ = some (.slice none 0 0) from rfl)
        have z5 := (hM.bz.cell 5).trans (show _ = some (.bool false) from rfl)
        go_wp2
        have hM2 := hM.put
        refine ⟨rfl, hM2.bl, ?_⟩
        change wpQuiet _ _ _ _ (_ :: _ :: []) _
        repeat (go_big_quiet_step (fail))
        refine wpQuiet_nil ?_
        exact ⟨g, r, q, j, g6, m, x, rfl, hM2, hq, hm, hx⟩
    · simp [mayNxt] at he
  · intro s hs hn a V hJ
    have hsc : s = 11 := by
      rcases (show s = 0 ∨ s = 1 ∨ s = 2 ∨ s = 3 ∨ s = 4 ∨ s = 5 ∨ s = 6 ∨ s = 7 ∨ s = 8 ∨ s = 9 ∨ s = 10 ∨ s = 11 from by omega) with rfl | rfl | rfl | rfl | rfl | rfl | rfl | rfl | rfl | rfl | rfl | rfl <;> first | rfl | (simp [mayNxt] at hn)
    subst hsc
    clear hs hn hM0 hL hZ hYs hNs HG hC
    obtain ⟨g, r, q, j, g6, m, x, rfl, hM, hq, hm, hx⟩ := hJ
    have z0 := (hM.bz.cell 0).trans (show _ = some (.int .i64 d.id) from rfl)
    have z1 := (hM.bz.cell 1).trans (show _ = some (.int .i64 d.day) from rfl)
    have z2 := (hM.bz.cell 2).trans (show _ = some (.int .i64 d.need) from rfl)
    have z3 := (hM.bz.cell 3).trans (show _ = some (.slice Y d.yes.length yc) from rfl)
    have z4 := (hM.bz.cell 4).trans (show _ = some (.slice N' d.no.length nc) from rfl)
    have z5 := (hM.bz.cell 5).trans (show _ = some (.bool d.done) from rfl)
    go_wp2
    refine bodyPost_ret (v := .tuple #[.agg #[.int .i64 d.id, .int .i64 d.day, .int .i64 d.need, .slice Y d.yes.length yc, .slice N' d.no.length nc, .bool d.done], .int .i64 m, .int .i64 (d.day + x)]) (by simp [results, Tryd.results26, go_sem, z0, z1, z2, z3, z4, z5]) rfl ?_
    have hs2 := hM.hs; have hzp := hM.zp; have hpo := hM.po
    simp only [List.mem_cons, List.not_mem_nil, or_false] at hm hx
    exact ⟨d, Y, N', yc, nc, m, d.day + x, rfl, hly, hln, by omega, by omega, hM.sy.wide (by omega) (by omega), hM.sn.wide (by omega) (by omega), grown_below hM.gr (Nat.le_refl _) (fun k hk => by cases hk; omega)⟩
end Go.Proofs.YthgaddnbgnennaaDoor
