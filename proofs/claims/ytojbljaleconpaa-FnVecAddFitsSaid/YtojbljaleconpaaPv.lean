/- Plain laws of vectors: no Go text here. -/
import Derived.Test.YtojbljaleconpaaVm
namespace Go.Proofs.Ytojbljaleconpaa
theorem and_false {a b : Bool} (h : ¬ (a && b) = true) : (a && b) = false := by simpa using h
theorem vdot_yes {a b : List Int} (h : (vecB a && vecB b) = true) : vdot a b = dotL a b := by simp [vdot, h]
theorem vdot_no {a b : List Int} (h : (vecB a && vecB b) = false) : vdot a b = -1 := by simp only [vdot, h]; rfl
theorem vdot_comm (a b : List Int) : vdot b a = vdot a b := by
  cases h : (vecB a && vecB b)
  · rw [vdot_no h, vdot_no (by rw [Bool.and_comm]; exact h)]
  · rw [vdot_yes h, vdot_yes (by rw [Bool.and_comm]; exact h)]
    simp only [Bool.and_eq_true] at h
    obtain ⟨x, y, z, rfl, _⟩ := vec_form h.1
    obtain ⟨x', y', z', rfl, _⟩ := vec_form h.2
    simp [dotL, mulL, Int.mul_comm]
theorem vdot_nonneg {a b : List Int} (h : (vecB a && vecB b) = true) : 0 ≤ vdot a b ∧ vdot a b ≤ 1200 := by
  rw [vdot_yes h]
  simp only [Bool.and_eq_true] at h
  obtain ⟨x, y, z, rfl, h1, h2, h3, h4, h5, h6⟩ := vec_form h.1
  obtain ⟨x', y', z', rfl, k1, k2, k3, k4, k5, k6⟩ := vec_form h.2
  have e1 := mul_bd (x := x) (y := x') ⟨h1, h2⟩ ⟨k1, k2⟩
  have e2 := mul_bd (x := y) (y := y') ⟨h3, h4⟩ ⟨k3, k4⟩
  have e3 := mul_bd (x := z) (y := z') ⟨h5, h6⟩ ⟨k5, k6⟩
  simp [dotL, mulL, List.sum_cons]
  omega
theorem vdot_zero {a : List Int} (h : vecB a = true) : vdot a [0, 0, 0] = 0 := by
  have h0 : vecB [0, 0, 0] = true := by decide
  rw [vdot_yes (by rw [h, h0]; rfl)]
  obtain ⟨x, y, z, rfl, _⟩ := vec_form h
  simp [dotL, mulL]
theorem vdot_add {a b : List Int} (ha : vecB a = true) (hb : vecB b = true) (hc : vecB (addL a b 1) = true) : vdot a (addL a b 1) = vdot a b + vdot a a := by
  rw [vdot_yes (by rw [ha, hc]; rfl), vdot_yes (by rw [ha, hb]; rfl), vdot_yes (by rw [ha]; rfl)]
  obtain ⟨x, y, z, rfl, _⟩ := vec_form ha
  obtain ⟨x', y', z', rfl, _⟩ := vec_form hb
  simp [dotL, mulL, addL, Int.mul_add]
  omega
theorem vfits_parts {a b : List Int} (h : vfitsB a b = true) : vecB a = true ∧ vecB b = true ∧ fitsB a b = true := by
  simp only [vfitsB, Bool.and_eq_true] at h
  exact ⟨h.1.1, h.1.2, h.2⟩
theorem fits_form {x y z x' y' z' : Int} : fitsB [x, y, z] [x', y', z'] = true ↔ x ≤ x' ∧ y ≤ y' ∧ z ≤ z' := by simp [fitsB]
theorem vfits_refl {a : List Int} (h : vecB a = true) : vfitsB a a = true := by
  obtain ⟨x, y, z, rfl, _⟩ := vec_form h
  simp only [vfitsB, h, Bool.true_and]
  rw [fits_form]; omega
theorem vfits_anti {a b : List Int} (h : vfitsB a b = true) (h' : vfitsB b a = true) : a = b := by
  obtain ⟨h1, h2, h3⟩ := vfits_parts h
  obtain ⟨_, _, h4⟩ := vfits_parts h'
  obtain ⟨x, y, z, rfl, _⟩ := vec_form h1
  obtain ⟨x', y', z', rfl, _⟩ := vec_form h2
  rw [fits_form] at h3 h4
  simp; omega
theorem fits_at {a b : List Int} (h : fitsB a b = true) {k : Nat} {x y : Int} (hx : a[k]? = some x) (hy : b[k]? = some y) : x ≤ y := by
  unfold fitsB at h
  rw [List.all_eq_true] at h
  have := h _ (List.mem_of_getElem? (zip_some (f := fun x y => decide (x ≤ y)) hx hy))
  simpa using this
theorem fits_next {a b : List Int} {k : Nat} {x y : Int} (hx : a[k]? = some x) (hy : b[k]? = some y) :
    (!((List.zipWith (fun x y => decide (x ≤ y)) a b).take (k + 1)).all id) = ((!((List.zipWith (fun x y => decide (x ≤ y)) a b).take k).all id) || decide (y < x)) := by
  rw [take_succ_some (zip_some (f := fun x y => decide (x ≤ y)) hx hy), List.all_append]
  simp only [List.all_cons, List.all_nil, Bool.and_true, Bool.not_and, id]
  congr 1
  rw [Bool.eq_iff_iff]; simp
theorem vmax_len (a b : List Int) : (vmaxR a b).length ≤ 3 := by
  unfold vmaxR
  split
  · rename_i h
    simp only [Bool.and_eq_true] at h
    rw [maxL_len (vec_len h.1) (vec_len h.2)]; omega
  · simp
theorem vmax_no {a b : List Int} (h : (vecB a && vecB b) = false) : vmaxR a b = [] := by simp [vmaxR, h]
theorem vmax_comm (a b : List Int) : vmaxR b a = vmaxR a b := by
  cases h : (vecB a && vecB b)
  · have h' : (vecB b && vecB a) = false := by rw [Bool.and_comm]; exact h
    simp [vmaxR, h, h']
  · have h' : (vecB b && vecB a) = true := by rw [Bool.and_comm]; exact h
    simp only [vmaxR, h, h', if_true]
    simp only [Bool.and_eq_true] at h
    obtain ⟨x, y, z, rfl, _⟩ := vec_form h.1
    obtain ⟨x', y', z', rfl, _⟩ := vec_form h.2
    simp [maxL, Int.max_comm]
theorem vmax_vec {a b : List Int} (h : (vecB a && vecB b) = true) : vmaxR a b = maxL a b ∧ vecB (maxL a b) = true ∧ vfitsB a (maxL a b) = true ∧ vfitsB b (maxL a b) = true ∧ (maxL a b).length = 3 := by
  have e : vmaxR a b = maxL a b := by simp only [vmaxR, h, if_true]
  simp only [Bool.and_eq_true] at h
  obtain ⟨ha, hb⟩ := h
  refine ⟨e, ?_⟩
  obtain ⟨x, y, z, rfl, h1, h2, h3, h4, h5, h6⟩ := vec_form ha
  obtain ⟨x', y', z', rfl, k1, k2, k3, k4, k5, k6⟩ := vec_form hb
  have hm : maxL [x, y, z] [x', y', z'] = [max x x', max y y', max z z'] := rfl
  rw [hm]
  have hv : vecB [max x x', max y y', max z z'] = true := vec_mk (by omega)
  refine ⟨hv, ?_, ?_, rfl⟩
  · simp only [vfitsB, ha, hv, Bool.true_and]; rw [fits_form]; omega
  · simp only [vfitsB, hb, hv, Bool.true_and]; rw [fits_form]; omega
theorem vmax_at {a b : List Int} {k : Nat} {x y m : Int} (hx : a[k]? = some x) (hy : b[k]? = some y) (hm : (maxL a b)[k]? = some m) : m = x ∨ m = y := by
  rw [maxL_some hx hy] at hm
  have := Option.some.inj hm
  omega
theorem addL_form (x y z x' y' z' t : Int) : addL [x, y, z] [x', y', z'] t = [x + t * x', y + t * y', z + t * z'] := rfl
theorem vadd_comm (a b : List Int) : vaddR b a = vaddR a b := by
  cases h : (vecB a && vecB b)
  · have h' : (vecB b && vecB a) = false := by rw [Bool.and_comm]; exact h
    simp [vaddR, h, h']
  · have h' : (vecB b && vecB a) = true := by rw [Bool.and_comm]; exact h
    simp only [Bool.and_eq_true] at h h'
    have e : addL b a 1 = addL a b 1 := by
      obtain ⟨x, y, z, rfl, _⟩ := vec_form h.1
      obtain ⟨x', y', z', rfl, _⟩ := vec_form h.2
      simp [addL_form]; omega
    simp only [vaddR, h.1, h.2, e]
theorem vadd_yes {a b : List Int} (h : (vaddR a b).2 = true) : vecB a = true ∧ vecB b = true ∧ vecB (addL a b 1) = true ∧ (vaddR a b).1 = addL a b 1 := by
  unfold vaddR at *
  split at h
  · rename_i hc
    simp only [Bool.and_eq_true] at hc
    rw [if_pos (by simp [hc.1.1, hc.1.2, hc.2])]
    exact ⟨hc.1.1, hc.1.2, hc.2, rfl⟩
  · simp at h
theorem vsub_of_add {a b : List Int} (ha : vecB a = true) (hb : vecB b = true) (hs : vecB (addL a b 1) = true) : vsubR (addL a b 1) a = (b, true) ∧ vsubR (addL a b 1) b = (a, true) ∧ vfitsB a (addL a b 1) = true ∧ vfitsB b (addL a b 1) = true := by
  obtain ⟨x, y, z, rfl, h1, h2, h3, h4, h5, h6⟩ := vec_form ha
  obtain ⟨x', y', z', rfl, k1, k2, k3, k4, k5, k6⟩ := vec_form hb
  rw [addL_form] at *
  have f1 : vfitsB [x, y, z] [x + 1 * x', y + 1 * y', z + 1 * z'] = true := by
    simp only [vfitsB, ha, hs, Bool.true_and]; rw [fits_form]; omega
  have f2 : vfitsB [x', y', z'] [x + 1 * x', y + 1 * y', z + 1 * z'] = true := by
    simp only [vfitsB, hb, hs, Bool.true_and]; rw [fits_form]; omega
  refine ⟨?_, ?_, f1, f2⟩
  · simp only [vsubR, f1, if_true, addL_form]; simp; omega
  · simp only [vsubR, f2, if_true, addL_form]; simp; omega
theorem vsub_yes {a b : List Int} (h : vfitsB b a = true) : vsubR a b = (addL a b (-1), true) ∧ vaddR (addL a b (-1)) b = (a, true) := by
  obtain ⟨hb, ha, hf⟩ := vfits_parts h
  refine ⟨by simp only [vsubR, h, if_true], ?_⟩
  obtain ⟨x, y, z, rfl, h1, h2, h3, h4, h5, h6⟩ := vec_form ha
  obtain ⟨x', y', z', rfl, k1, k2, k3, k4, k5, k6⟩ := vec_form hb
  rw [fits_form] at hf
  rw [addL_form]
  have e : addL [x + -1 * x', y + -1 * y', z + -1 * z'] [x', y', z'] 1 = [x, y, z] := by rw [addL_form]; simp; omega
  have hv : vecB [x + -1 * x', y + -1 * y', z + -1 * z'] = true := vec_mk (by omega)
  simp only [vaddR, e, hv, hb, ha, Bool.and_self, if_true]
theorem vsub_no {a b : List Int} (h : vfitsB b a = false) : vsubR a b = ([], false) := by simp [vsubR, h]
end Go.Proofs.Ytojbljaleconpaa
