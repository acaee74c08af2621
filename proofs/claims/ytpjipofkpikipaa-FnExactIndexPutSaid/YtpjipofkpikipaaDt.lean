/- The generator of a task: a number and three ints in new memory. No condition but on sizes. -/
import Derived.Test.YtpjipofkpikipaaDv
import Derived.Test.YtpjipofkpikipaaBk
import Derived.Deep.RegionHeld3
import Derived.WalkSpells
namespace Go.Proofs.Ytpjipofkpikipaa
open Go.RowKit
theorem le_le {a b : Nat} (h : a = b) : a ≤ b ∧ b ≤ a := ⟨Nat.le_of_eq h, Nat.le_of_eq h.symm⟩
/-- what a generator of one task leaves -/
def DrewT (w : World) (g p : Nat) (id : Int) (e : Ending) (w' : World) : Prop :=
  ∃ A c, ∃ zs : List Int, ∃ p', e = .returned (.agg #[.int .i64 id, .slice A zs.length c]) ∧ Ints w' w.heap.size w'.heap.size A c zs ∧ zs.length = 3 ∧ (∀ z, z ∈ zs → -1 ≤ z ∧ z ≤ 100) ∧ Rd w' g p' ∧ p ≤ p' ∧ p' ≤ p + 6 ∧ Only g (g + 1) w w'
/-- the same, its block known whole -/
def DrewB (w : World) (g p : Nat) (id : Int) (e : Ending) (w' : World) : Prop :=
  ∃ b, ∃ x y z : Int, ∃ p', e = .returned (.agg #[.int .i64 id, .slice (some ⟨b, 0, none⟩) 3 3]) ∧ Blk w' b 3 [.int .i64 x, .int .i64 y, .int .i64 z] ∧ w.heap.size ≤ b ∧ b < w'.heap.size ∧
    (0 ≤ x ∧ x ≤ 100) ∧ (0 ≤ y ∧ y ≤ 100) ∧ (0 ≤ z ∧ z ≤ 100) ∧ Rd w' g p' ∧ p ≤ p' ∧ p' ≤ p + 6 ∧ Only g (g + 1) w w'
theorem Ints.of_blk {w : World} {b : Nat} {e : TypeId} {zs : List Int} (h : Blk w b e (zs.map (Value.int .i64))) (hl : zs.length ≤ maxLen) : Ints w b (b + 1) (some ⟨b, 0, none⟩) zs.length zs := by
  refine ⟨Nat.le_refl _, hl, ?_⟩
  by_cases h0 : zs.length = 0
  · exact .inl (List.eq_nil_of_length_eq_zero h0)
  · refine .inr ⟨b, 0, rfl, Nat.le_refl _, by omega, fun j y hj => ?_⟩
    have hc := h.cell (i := j) (v := .int .i64 y) (by rw [List.getElem?_map, hj]; rfl)
    exact ⟨by simpa using hc, by simpa using h.frozen j⟩
theorem DrewB.t {w w' : World} {g p : Nat} {id : Int} {e : Ending} (h : DrewB w g p id e w') : DrewT w g p id e w' := by
  obtain ⟨b, x, y, z, p', rfl, hB, h1, h2, hx, hy, hz, hR, hp1, hp2, hO⟩ := h
  have hI := Ints.of_blk (zs := [x, y, z]) hB (by simp [maxLen])
  exact ⟨_, 3, [x, y, z], p', rfl, hI.mono h1 (by omega), rfl, by intro u hu; simp at hu; omega, hR, hp1, hp2, hO⟩
theorem own_lit3 (w : World) (e : TypeId) (a b c : Int) : (w.alloc (.cells #[.int .i64 a, .int .i64 b, .int .i64 c] e)).ownsRow w.heap.size e 1 (.slice (some ⟨w.heap.size, 0, none⟩) 3 3) 3 (([a, b, c] : List Int).map (Value.int .i64)) :=
  World.ownsRow_lit w #[.int .i64 a, .int .i64 b, .int .i64 c] 3 (Nat.le_refl _) (by simp [maxLen]) rfl
theorem keepS {g L i : Nat} {a b : World} {v : Value} (h : Only g (g + 1) a b) (hg : g < L) (hL : L < a.heap.size) (hc : a.cell? ⟨L, i, none⟩ = some v) : b.cell? ⟨L, i, none⟩ = some v :=
  (World.cell?_of_block (a := ⟨L, i, none⟩) (h.block L hL (.inr hg))).trans hc
theorem lit3_at (x y z : Int) {i : Nat} (hi : i < 3) : ∃ v, ([.int .i64 x, .int .i64 y, .int .i64 z] : List Value)[i]? = some v := ⟨_, List.getElem?_eq_getElem (by simpa using hi)⟩
theorem lit3_set (x y z u : Int) {i : Nat} (hi : i < 3) (hx : 0 ≤ x ∧ x ≤ 100) (hy : 0 ≤ y ∧ y ≤ 100) (hz : 0 ≤ z ∧ z ≤ 100) (hu : 0 ≤ u ∧ u ≤ 100) :
    ∃ x' y' z' : Int, ([.int .i64 x, .int .i64 y, .int .i64 z] : List Value).set i (.int .i64 u) = [.int .i64 x', .int .i64 y', .int .i64 z'] ∧ (0 ≤ x' ∧ x' ≤ 100) ∧ (0 ≤ y' ∧ y' ≤ 100) ∧ (0 ≤ z' ∧ z' ≤ 100) := by
  have : i = 0 ∨ i = 1 ∨ i = 2 := by omega
  rcases this with rfl | rfl | rfl
  · exact ⟨u, y, z, rfl, hu, hy, hz⟩
  · exact ⟨x, u, z, rfl, hx, hu, hz⟩
  · exact ⟨x, y, u, rfl, hx, hy, hu⟩
