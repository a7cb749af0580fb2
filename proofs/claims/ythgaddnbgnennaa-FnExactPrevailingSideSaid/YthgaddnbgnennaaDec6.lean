/- The mark of a decided question. -/
import Derived.Test.YthgaddnbgnennaaDec2
namespace Go.Proofs.Ythgaddnbgnennaa
open Go.RowKit Go.G9
set_option maxHeartbeats 1000000 in
theorem markDecided_is (B : Nat) (d : Dec) (Y N : Option Addr) (yc nc : Nat) (hy : d.yes.length ≤ 1048576) (hn : d.no.length ≤ 1048576) (m : Int) (h0 : 0 ≤ m) (h1 : m ≤ 100000000) (w : World) (hB : B ≤ w.heap.size)
    (hOY : OwnV B 3 1 intC w (.slice Y d.yes.length yc) d.yes) (hON : OwnV B 3 1 intC w (.slice N d.no.length nc) d.no) (hne : ∀ k, (Value.slice Y d.yes.length yc).ownBlock = some k → some k ≠ (Value.slice N d.no.length nc).ownBlock) :
  Calls Try.prog 20 #[.agg #[.int .i64 d.id, .int .i64 d.day, .int .i64 d.need, .slice Y d.yes.length yc, .slice N d.no.length nc, .bool d.done], .int .i64 m] w fun e w' => e = .returned (.int .i64 (m + d.yes.length + d.no.length)) ∧ Below B w w' ∧
    ∀ C v xs, OwnV C 3 1 intC w v xs → (∀ k, v.ownBlock = some k → some k ≠ (Value.slice Y d.yes.length yc).ownBlock ∧ some k ≠ (Value.slice N d.no.length nc).ownBlock) → OwnV C 3 1 intC w' v xs := by
  go_enter Try.func20, Try.ntmps20
  go_wp2_with fail
  refine (markIntS_is B Y yc d.yes hy m h0 (by omega) _ (hOY.alloc _)).mono ?_
  rintro e w1 ⟨rfl, hO1, hg1⟩
  have hlY := hOY.lt
  have hlN := hON.lt
  have hA : Blk w1 w.heap.size 28 #[.int .i64 d.id, .int .i64 d.day, .int .i64 d.need, .slice Y d.yes.length yc, .slice N d.no.length nc, .bool d.done] := (hg1.block _ (by simp) (fun h => by have := (hlY _ h.symm).2; omega)).trans (Blk.new w 28 #[.int .i64 d.id, .int .i64 d.day, .int .i64 d.need, .slice Y d.yes.length yc, .slice N d.no.length nc, .bool d.done])
  have hN1 : OwnV B 3 1 intC w1 (.slice N d.no.length nc) d.no := (hON.alloc _).kept hg1 (fun k hk h => hne k h.symm hk.symm)
  have a0 := hA.cell 0
  have a1 := hA.cell 1
  have a2 := hA.cell 2
  have a3 := hA.cell 3
  have a4 := hA.cell 4
  have a5 := hA.cell 5
  simp at a0 a1 a2 a3 a4 a5
  go_wp2_with fail
  refine (markIntS_is B N nc d.no hn (m + d.yes.length) (by omega) (by omega) _ hN1).mono ?_
  rintro e w2 ⟨rfl, hO2, hg2⟩
  go_wp2
  go_ret
  have hs1 := hg1.size
  refine ⟨rfl, ((((Below.refl B w).alloc hB _).grown hg1 (by simp at hs1 ⊢; omega) (fun k hk => (hlY k hk).1)).grown hg2 (by simp at hs1; omega) (fun k hk => (hlN k hk).1)), ?_⟩
  intro C v xs hv hk
  exact ((hv.alloc _).kept hg1 (fun k h => (hk k h).1)).kept hg2 (fun k h => (hk k h).2)
end Go.Proofs.Ythgaddnbgnennaa
