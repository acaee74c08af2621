/- Slices of units without tasks: compare, mark. No condition but on sizes. -/
import Derived.Test.YtcmampicgdobcaaLw
import Derived.Test.YtcmampicgdobcaaDt
namespace Go.Proofs.Ytcmampicgdobcaa
open Go.RowKit
theorem cell_belowU {B b o : Nat} {w w' : World} {v : Value} (h : Below B w w') (hq : b < B) (hc : w.cell? ⟨b, o, none⟩ = some v) : w'.cell? ⟨b, o, none⟩ = some v := (h.cell (p := ⟨b, o, none⟩) hq).trans hc
/-- n units without tasks; f tells which are open -/
def Units (w : World) (lo hi : Nat) (A : Option Addr) (n : Nat) (f : Nat → Bool) : Prop :=
  n = 0 ∨ ∃ b off, A = some ⟨b, off, none⟩ ∧ lo ≤ b ∧ b < hi ∧ ∀ j, j < n → w.frozen? ⟨b, off + j * 2, none⟩ = false ∧ w.cell? ⟨b, off + j * 2, none⟩ = some (.bool (f j)) ∧ ∃ Aj cj, cj ≤ maxLen ∧ w.cell? ⟨b, off + j * 2 + 1, none⟩ = some (.slice Aj 0 cj)
section
variable {w w' : World} {lo hi lo' hi' l h B n : Nat} {A : Option Addr} {f g : Nat → Bool}
theorem Units.keep (h : Units w lo hi A n f) (hk : ∀ p : Addr, lo ≤ p.block → p.block < hi → w'.cell? p = w.cell? p ∧ w'.frozen? p = w.frozen? p) : Units w' lo hi A n f := by
  rcases h with h | ⟨b, off, h1, h2, h3, h4⟩
  · exact .inl h
  · refine .inr ⟨b, off, h1, h2, h3, fun j hj => ?_⟩
    obtain ⟨e1, e2, Aj, cj, e4, e3⟩ := h4 j hj
    exact ⟨by rw [(hk ⟨b, off + j * 2, none⟩ h2 h3).2]; exact e1, by rw [(hk ⟨b, off + j * 2, none⟩ h2 h3).1]; exact e2, Aj, cj, e4, by rw [(hk ⟨b, off + j * 2 + 1, none⟩ h2 h3).1]; exact e3⟩
theorem Units.below (h : Units w lo hi A n f) (hb : Below B w w') (hB : hi ≤ B) : Units w' lo hi A n f :=
  h.keep fun _ _ h2 => ⟨hb.cell (by omega), hb.frozen (by omega)⟩
theorem Units.only (k : Units w l h A n f) (a : Only lo hi w w') (hd : h ≤ lo ∨ hi ≤ l) (hs : h ≤ w.heap.size) : Units w' l h A n f :=
  k.keep fun p h1 h2 => ⟨World.cell?_of_block (a.block p.block (by omega) (by omega)), World.frozen?_of_block (a.block p.block (by omega) (by omega))⟩
theorem Units.mono (h : Units w lo hi A n f) (h1 : lo' ≤ lo) (h2 : hi ≤ hi') : Units w lo' hi' A n f := by
  rcases h with h | ⟨b, off, e1, e2, e3, e4⟩
  · exact .inl h
  · exact .inr ⟨b, off, e1, by omega, by omega, e4⟩
theorem Units.drewN (h : Units w lo hi A n f) (m : Nat) : Units (w.drewN m) lo hi A n f := h
theorem Units.at_ (h : Units w lo hi A n f) {k : Nat} (hk : k < n) : ∃ b off Aj cj, A = some ⟨b, off, none⟩ ∧ lo ≤ b ∧ b < hi ∧ w.frozen? ⟨b, off + k * 2, none⟩ = false ∧ w.cell? ⟨b, off + k * 2, none⟩ = some (.bool (f k)) ∧ w.cell? ⟨b, off + k * 2 + 1, none⟩ = some (.slice Aj 0 cj) := by
  rcases h with h | ⟨b, off, h1, h2, h3, h4⟩
  · omega
  · obtain ⟨e1, e2, Aj, cj, _, e3⟩ := h4 k hk
    exact ⟨b, off, Aj, cj, h1, h2, h3, e1, e2, e3⟩
theorem Units.at2_ (h : Units w lo hi A n f) {k : Nat} (hk : k < n) : ∃ b off Aj cj, A = some ⟨b, off, none⟩ ∧ lo ≤ b ∧ b < hi ∧ cj ≤ maxLen ∧ w.cell? ⟨b, off + k * 2, none⟩ = some (.bool (f k)) ∧ w.cell? ⟨b, off + k * 2 + 1, none⟩ = some (.slice Aj 0 cj) := by
  rcases h with h | ⟨b, off, h1, h2, h3, h4⟩
  · omega
  · obtain ⟨e1, e2, Aj, cj, e4, e3⟩ := h4 k hk
    exact ⟨b, off, Aj, cj, h1, h2, h3, e4, e2, e3⟩
theorem Units.congr (h : Units w lo hi A n f) (e : ∀ j, j < n → f j = g j) : Units w lo hi A n g := by
  rcases h with h | ⟨b, off, h1, h2, h3, h4⟩
  · exact .inl h
  · refine .inr ⟨b, off, h1, h2, h3, fun j hj => ?_⟩
    obtain ⟨e1, e2, e3⟩ := h4 j hj
    exact ⟨e1, by rw [e2, e j hj], e3⟩
/-- one unit is opened or closed -/
theorem Units.set_ {b off k : Nat} (h : Units w lo hi (some ⟨b, off, none⟩) n f) (hk : k < n) (v : Bool) : Units (w.setCell ⟨b, off + k * 2, none⟩ (.bool v)) lo hi (some ⟨b, off, none⟩) n (fun j => if j = k then v else f j) := by
  rcases h with h | ⟨b', off', e, h2, h3, h4⟩
  · exact .inl h
  · simp only [Option.some.injEq, Addr.mk.injEq, and_true] at e
    obtain ⟨rfl, rfl⟩ := e
    refine .inr ⟨b, off, rfl, h2, h3, fun j hj => ?_⟩
    obtain ⟨e1, e2, Aj, cj, e4, e3⟩ := h4 j hj
    refine ⟨by rw [World.frozen?_setCell]; exact e1, ?_, Aj, cj, e4, ?_⟩
    · show _ = some (Value.bool (if j = k then v else f j))
      by_cases hjk : j = k
      · subst hjk
        rw [if_pos rfl]
        exact World.cell?_setCell_same w _ _ e2
      · rw [if_neg hjk, World.cell?_setCell_other _ _ _ _ (by intro h; simp only [Addr.mk.injEq] at h; omega)]
        exact e2
    · rw [World.cell?_setCell_other _ _ _ _ (by intro h; simp only [Addr.mk.injEq] at h; omega)]
      exact e3
end
