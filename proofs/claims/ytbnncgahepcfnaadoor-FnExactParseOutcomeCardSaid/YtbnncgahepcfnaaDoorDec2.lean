/- Decided questions: validity of a decided question, copies, comparisons. -/
import Derived.Test.YtbnncgahepcfnaaDoorDec
namespace Go.Proofs.YtbnncgahepcfnaaDoor
open Go.RowKit Go.G9
theorem Blk.far {w : World} {g : Nat} {t : TypeId} {cs : Array Value} (h : Blk w g t cs) {p : Addr} (hp : g ≠ p.block) (u : Value) : Blk (w.setCell p u) g t cs := (Below.heap_setCell w p u g hp).trans h
theorem OwnV.low {T : Type} {B : Nat} {e : TypeId} {sz : Nat} {f : T → List Value} {w : World} {v : Value} {xs : List T} (h : OwnV B e sz f w v xs) {p : Addr} (hp : p.block < B) {u : Value} : OwnV B e sz f (w.setCell p u) v xs := ownsRow_setCell_below h hp u
end Go.Proofs.YtbnncgahepcfnaaDoor
