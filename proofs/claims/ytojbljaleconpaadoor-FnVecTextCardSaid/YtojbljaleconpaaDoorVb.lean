/- Contracts of the vectors' functions that make memory. No condition but on sizes. -/
import Derived.Test.YtojbljaleconpaaDoorVa
import Derived.Test.YtojbljaleconpaaDoorApp
import Derived.Deep.RegionHeld3
import Derived.WalkSpells
namespace Go.Proofs.YtojbljaleconpaaDoor
open Go.RowKit
theorem map_snoc {l m : List Int} {z : Int} (h : m = l ++ [z]) : m.map (Value.int .i64) = l.map (Value.int .i64) ++ [.int .i64 z] := by rw [h]; simp
/-- the cells of a vector that is being filled: the first k are the result's -/
def Fill (z cs : List Int) (k : Nat) : Prop := cs.length = 3 ∧ z.length = 3 ∧ ∀ j, j < k → cs[j]? = z[j]?
theorem Fill.start {z : List Int} (h : z.length = 3) : Fill z [0, 0, 0] 0 := ⟨rfl, h, fun j hj => by omega⟩
theorem Fill.next {z cs : List Int} {k : Nat} {x : Int} (h : Fill z cs k) (hk : k < 3) (hx : z[k]? = some x) : Fill z (cs.set k x) (k + 1) := by
  refine ⟨by simp [h.1], h.2.1, fun j hj => ?_⟩
  by_cases hjk : j = k
  · subst hjk; rw [hx, List.getElem?_set_self (by rw [h.1]; exact hk)]
  · rw [List.getElem?_set_ne (by omega)]; exact h.2.2 j (by omega)
theorem Fill.done {z cs : List Int} {k : Nat} (h : Fill z cs k) (hk : 3 ≤ k) : cs = z := by
  apply List.ext_getElem?
  intro j
  by_cases hj : j < 3
  · exact h.2.2 j (by omega)
  · rw [List.getElem?_eq_none (by rw [h.1]; omega), List.getElem?_eq_none (by rw [h.2.1]; omega)]
theorem own_at {w : World} {base e g n cap : Nat} {cs : List Int} (h : w.ownsRow base e 1 (.slice (some ⟨g, 0, none⟩) n cap) n (cs.map (Value.int .i64))) {k : Nat} (hk : k < n) :
    ∃ y, cs[k]? = some y ∧ w.cell? ⟨g, k, none⟩ = some (.int .i64 y) ∧ w.frozen? ⟨g, k, none⟩ = false := by
  have hl : cs.length = n := by have := h.1; simpa using this
  have hy : cs[k]? = some cs[k] := List.getElem?_eq_getElem (by omega)
  exact ⟨_, hy, by rw [h.cellAt k (by omega), List.getElem?_map, hy]; rfl, h.frozenAt k⟩
theorem own_set {w : World} {base e g n cap : Nat} {cs : List Int} (h : w.ownsRow base e 1 (.slice (some ⟨g, 0, none⟩) n cap) n (cs.map (Value.int .i64))) (k : Nat) (x : Int) :
    (w.setCell ⟨g, k, none⟩ (.int .i64 x)).ownsRow base e 1 (.slice (some ⟨g, 0, none⟩) n cap) n ((cs.set k x).map (Value.int .i64)) := by
  have := (h.stored k (.int .i64 x)).1
  rwa [List.map_set]
theorem elI : Elem Tryd.prog 22 3 1 8 := Elem.mk' Tryd.underlying22 (z := .int .i64 0) (by kernel_rfl) rfl (by omega)
theorem addL_some {a b : List Int} {t : Int} {k : Nat} {x y : Int} (hx : a[k]? = some x) (hy : b[k]? = some y) : (addL a b t)[k]? = some (x + t * y) := zip_some (f := fun x y => x + t * y) hx hy
theorem maxL_some {a b : List Int} {k : Nat} {x y : Int} (hx : a[k]? = some x) (hy : b[k]? = some y) : (maxL a b)[k]? = some (max x y) := zip_some (f := fun x y => max x y) hx hy
