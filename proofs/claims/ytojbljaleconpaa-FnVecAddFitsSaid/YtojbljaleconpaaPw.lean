/- Plain laws of vectors, part two: lengths. No Go text here. -/
import Derived.Test.YtojbljaleconpaaPv
namespace Go.Proofs.Ytojbljaleconpaa
theorem vadd_len (a b : List Int) : (vaddR a b).1.length ≤ 3 := by
  unfold vaddR
  split
  · rename_i h
    simp only [Bool.and_eq_true] at h
    show (addL a b 1).length ≤ 3
    rw [addL_len (vec_len h.1.1) (vec_len h.1.2)]; omega
  · simp
theorem vsub_len (a b : List Int) : (vsubR a b).1.length ≤ 3 := by
  unfold vsubR
  split
  · rename_i h
    obtain ⟨hb, ha, _⟩ := vfits_parts h
    show (addL a b (-1)).length ≤ 3
    rw [addL_len (vec_len ha) (vec_len hb)]; omega
  · simp
end Go.Proofs.Ytojbljaleconpaa
