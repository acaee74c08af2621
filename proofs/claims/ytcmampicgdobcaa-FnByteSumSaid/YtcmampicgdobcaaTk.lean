/- The order of tasks: l4Before and TaskBefore, both programs. No condition but on sizes. -/
import Derived.Test.YtcmampicgdobcaaTb
namespace Go.Proofs.Ytcmampicgdobcaa
open Go.RowKit
/-- one task comes before another one -/
def taskLt (i : Int) (a : List Int) (j : Int) (b : List Int) : Bool := decide (b.sum < a.sum) || (decide (a.sum = b.sum) && decide (i < j))
def tbeforeB (i : Int) (a : List Int) (j : Int) (b : List Int) : Bool := inB i 1 40 && inB j 1 40 && vecB a && vecB b && taskLt i a j b
theorem taskLt_cmp (i j : Int) (a b : List Int) : decide (orI (cmpI b.sum a.sum) (cmpI i j) < 0) = taskLt i a j b := by
  unfold orI cmpI taskLt
  by_cases h1 : b.sum < a.sum
  · simp [h1]
  · by_cases h2 : a.sum < b.sum
    · simp [h1, h2, show ¬ a.sum = b.sum by omega]
    · have h3 : a.sum = b.sum := by omega
      simp [h3]
      by_cases h4 : i < j
      · simp [h4]
      · simp [h4]; split <;> decide
theorem tbf {i j : Int} {a b : List Int} (h : (vecB a && vecB b) = false) : tbeforeB i a j b = false := by
  unfold tbeforeB
  rw [Bool.and_assoc (_ && _) (vecB a) (vecB b), h]; simp
