/- Tasks and their order: contracts of total, l4Sum, compare, l4Before, TaskBefore. No condition but on sizes. -/
import Derived.Test.YtcmampicgdobcaaPr
import Derived.Test.YtcmampicgdobcaaVr
namespace Go.Proofs.Ytcmampicgdobcaa
open Go.RowKit
theorem sum_bd {ys : List Int} {M : Int} (_hM : 0 ≤ M) (h : ∀ y, y ∈ ys → -M ≤ y ∧ y ≤ M) : -(M * ys.length) ≤ ys.sum ∧ ys.sum ≤ M * ys.length := by
  induction ys with
  | nil => simp
  | cons y r ih =>
    have h1 := h y (List.mem_cons_self ..)
    have h2 := ih (fun z hz => h z (List.mem_cons_of_mem _ hz))
    simp only [List.sum_cons, List.length_cons]
    rw [show M * ((r.length + 1 : Nat) : Int) = M * r.length + M by rw [Int.natCast_add, Int.mul_add]; simp]
    omega
theorem take_sum_snoc {ys : List Int} {k : Nat} {y : Int} (h : ys[k]? = some y) : (ys.take (k + 1)).sum = (ys.take k).sum + y := sum_snoc (take_succ_some h)
theorem idValid_any (n : Int) (w : World) : Calls Try.prog 46 #[.int .i64 n] w fun e w' => e = .returned (.bool (inB n 1 40)) ∧ w = w' := by
  go_enter Try.func46, Try.ntmps46
  go_wp2_with (go_at_call 19; refine (within_any _ _ _ _).mono ?_; rintro e w' ⟨rfl, rfl⟩)
  go_ret
  exact ⟨by simp, rfl⟩
