/- Small facts on worlds. No condition but on sizes. -/
import Derived.Test.YtcmampicgdobcaaDt
import Derived.Test.YtcmampicgdobcaaRw
namespace Go.Proofs.Ytcmampicgdobcaa
open Go.RowKit
theorem ownsRow_below' {w w' : World} {base e size n B : Nat} {v : Value} {xs : List Value} (h : w.ownsRow base e size v n xs) (hb : Below B w w') (hB : w.heap.size ≤ B) : w'.ownsRow base e size v n xs := ownsRow_below h (hb.mono hB)
/-- a hidden equality of sizes as two bounds -/
theorem size_alloc (w : World) (o : Obj) : (w.alloc o).heap.size = w.heap.size + 1 := by simp
end Go.Proofs.Ytcmampicgdobcaa
