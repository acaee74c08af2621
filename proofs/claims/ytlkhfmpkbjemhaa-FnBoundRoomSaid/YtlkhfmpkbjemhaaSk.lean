/- Plain facts for the statements on bounds, part two. No program. -/
import Derived.Test.YtlkhfmpkbjemhaaSm
import Derived.Test.YtlkhfmpkbjemhaaTc
namespace Go.Proofs.Ytlkhfmpkbjemhaa
open Go.RowKit
/-- one dimension of a load, and the room there -/
theorem bound_row {a b c x y z v : Int} (h : a ≤ v * x ∧ b ≤ v * y ∧ c ≤ v * z) (hv : 0 ≤ v ∧ v ≤ 16) (hx : 1 ≤ x ∧ x ≤ 20) (hy : 1 ≤ y ∧ y ≤ 20) (hz : 1 ≤ z ∧ z ≤ 20) {k : Nat} (hk : k < 3) :
    ∃ l r p q : Int, [a, b, c][k]? = some l ∧ [x, y, z][k]? = some r ∧ v * r = p ∧ (v - 1) * r = q ∧ l ≤ p ∧ (0 ≤ p ∧ p ≤ 10000) ∧ (-10000 ≤ q ∧ q ≤ 10000) := by
  have key : ∀ r : Int, 1 ≤ r ∧ r ≤ 20 → (0 ≤ v * r ∧ v * r ≤ 10000) ∧ (-10000 ≤ (v - 1) * r ∧ (v - 1) * r ≤ 10000) := by
    intro r hr
    have h1 : 0 * r ≤ v * r := Int.mul_le_mul_of_nonneg_right hv.1 (by omega)
    have h2 : v * r ≤ 16 * r := Int.mul_le_mul_of_nonneg_right hv.2 (by omega)
    rw [Int.sub_mul]
    omega
  match k, hk with
  | 0, _ => exact ⟨a, x, _, _, rfl, rfl, rfl, rfl, h.1, (key x hx).1, (key x hx).2⟩
  | 1, _ => exact ⟨b, y, _, _, rfl, rfl, rfl, rfl, h.2.1, (key y hy).1, (key y hy).2⟩
  | 2, _ => exact ⟨c, z, _, _, rfl, rfl, rfl, rfl, h.2.2, (key z hz).1, (key z hz).2⟩
def tightL (v : Int) (l r : List Int) : List Bool := List.zipWith (fun a x => decide ((v - 1) * x < a)) l r
theorem tight_snoc {v a x q : Int} {l r : List Int} {k : Nat} (hl : l[k]? = some a) (hr : r[k]? = some x) (hq : (v - 1) * x = q) : ((tightL v l r).take (k + 1)).any id = (((tightL v l r).take k).any id || decide (q < a)) := by
  unfold tightL
  rw [take_succ_some (zip_some (f := fun a x => decide ((v - 1) * x < a)) hl hr), List.any_append]
  simp [hq]
theorem tight_all {v a b c x y z : Int} (h : v = 0 ∨ (v - 1) * x < a ∨ (v - 1) * y < b ∨ (v - 1) * z < c) : ((v == 0) || (tightL v [a, b, c] [x, y, z]).any id) = true := by
  simp [tightL]
  rcases h with h | h | h | h
  · exact .inl h
  · exact .inr (.inl h)
  · exact .inr (.inr (.inl h))
  · exact .inr (.inr (.inr h))
/-- the first task's conflicts -/
theorem any_snoc {α : Type} {l : List α} {k : Nat} {y : α} {p : α → Bool} (h : l[k]? = some y) : (l.take (k + 1)).any p = ((l.take k).any p || p y) := by
  rw [take_succ_some h, List.any_append]; simp
theorem apart_one {room : List Int} {t0 : TaskV} {r0 : List TaskV} (h : tasksB room ((t0 :: r0).map pv) = true) :
    1 ≤ apartI room ((t0 :: r0).map pv) ∧ (apartI room ((t0 :: r0).map pv) == 1) = !(r0.any (fun t => clashB room t0.need t.need)) := by
  have hf := apart_first (room := room) (x0 := t0.need) (needs r0)
  have e : apartI room ((t0 :: r0).map pv) = ((apartL room (t0.need :: needs r0)).length : Int) := by rw [apartI, if_pos h, needs_pv]; rfl
  rw [e]
  refine ⟨by omega, ?_⟩
  rw [Bool.eq_iff_iff, beq_iff_eq]
  have h2 : (((apartL room (t0.need :: needs r0)).length : Int) = 1) ↔ (apartL room (t0.need :: needs r0)).length = 1 := by omega
  rw [h2, hf.2]
  simp [needs]
theorem pair_ok {room : List Int} {t0 t : TaskV} {r0 : List TaskV} (h : tasksB room ((t0 :: r0).map pv) = true) (ht : t ∈ r0) : tasksB room [(t0.id, t0.need), (t.id, t.need)] = true := by
  refine tasksB_iff.2 ((tasksB_iff.1 h).sub ?_)
  rw [List.map_cons]
  exact List.Sublist.cons_cons _ (List.singleton_sublist.2 (List.mem_map.2 ⟨t, ht, rfl⟩))
end Go.Proofs.Ytlkhfmpkbjemhaa
