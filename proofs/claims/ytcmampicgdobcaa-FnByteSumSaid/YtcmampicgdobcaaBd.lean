/- Conflicts of two tasks and the bound by sums. No condition but on sizes. -/
import Derived.Test.YtcmampicgdobcaaLo
namespace Go.Proofs.Ytcmampicgdobcaa
open Go.RowKit
theorem good_bd {n : List Int} (h : GoodN n) : ∀ x, x ∈ n → -1000000000 ≤ x ∧ x ≤ 1000000000 := fun x hx => by have := h.2 x hx; omega
