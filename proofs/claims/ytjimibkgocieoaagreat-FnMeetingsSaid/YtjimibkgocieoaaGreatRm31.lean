/- Texts of the proof: walks of the functions, and what they compute. -/
import Derived.Test.YtjimibkgocieoaaGreatRm23
import Derived.Test.YtjimibkgocieoaaGreatRm30
import Derived.Test.YtjimibkgocieoaaGreatRm0
set_option maxHeartbeats 16000000
set_option maxRecDepth 100000
namespace Go.Proofs.YtjimibkgocieoaaGreat
open Go.RowKit Go.G9 Go.ChangeShapes Go.WideShapes Go.ChangeAt
variable {H : Type} {enc : TypeId × Value → H} {w : World} {base fuel : Nat} {sp : Nat → Bool} {hd : Bool} {cs : List Value} {x : DataW H × List MemPlace}
theorem cells_u8 : Tryz.prog.cellsOf 5 = 1 := by kernel_rfl
theorem rd_u8 (h : DataW.trod enc Tryz.prog w base sp hd fuel 5 cs = some x) : ∃ y : UInt8, cs = u8C y := by
 obtain ⟨n, rfl, h1, h2⟩ := DataW.trod_int Tryz.underlying5 h
 unfold Lit.wf at h2
 rw [Bool.and_eq_true, decide_eq_true_eq, decide_eq_true_eq] at h2
 have m1 : IntKind.u8.min = 0 := by decide
 have m2 : IntKind.u8.max = 255 := by decide
 have h3 : 0 ≤ n ∧ n ≤ 255 := by
  rw [m1, m2] at h2
  omega
 refine ⟨UInt8.ofNat n.toNat, ?_⟩
 show [Value.int .u8 n] = [Value.int .u8 ((UInt8.ofNat n.toNat).toNat : Int)]
 have e : ((UInt8.ofNat n.toNat).toNat : Int) = n := by
  rw [UInt8.toNat_ofNat']
  omega
 rw [e]
end Go.Proofs.YtjimibkgocieoaaGreat
