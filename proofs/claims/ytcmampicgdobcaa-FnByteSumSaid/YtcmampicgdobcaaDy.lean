/- The generator of a list of tasks. No condition but on sizes. -/
import Derived.Test.YtcmampicgdobcaaDx
namespace Go.Proofs.Ytcmampicgdobcaa
open Go.RowKit
/-- drawn tasks in new memory -/
def DrewL (ti : TypeId) (w : World) (g p : Nat) (e : Ending) (w' : World) : Prop :=
  ∃ A c, ∃ ts : List TaskV, ∃ p', e = .returned (.slice A ts.length c) ∧ Tasks w' w.heap.size w'.heap.size A c ts ∧ (∀ t, t ∈ ts → DTk ti w' w.heap.size t) ∧ ts.length ≤ 16 ∧ Rd w' g p' ∧ p ≤ p' ∧ p' ≤ p + 200 ∧ Only g (g + 1) w w'
theorem elT : Elem Try.prog 46 62 2 32 := Elem.mk' Try.underlying46 (z := .agg #[.int .i64 0, .slice none 0 0]) (by kernel_rfl) rfl (by omega)
theorem ownT_lit (w : World) (a b : Value) : (w.alloc (.cells #[a, b] 62)).ownsRow w.heap.size 62 2 (.slice (some ⟨w.heap.size, 0, none⟩) 1 1) 1 [a, b] :=
  World.ownsRow_lit w #[a, b] 1 (Nat.le_refl _) (by simp [maxLen]) rfl
