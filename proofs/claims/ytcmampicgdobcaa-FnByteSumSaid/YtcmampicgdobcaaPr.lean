/- Contracts over slices of pairs. No condition but on sizes. -/
import Derived.Test.YtcmampicgdobcaaRw
import Derived.Test.YtcmampicgdobcaaVb
import Derived.Test.YtcmampicgdobcaaLw
namespace Go.Proofs.Ytcmampicgdobcaa
open Go.RowKit
def pairCells (p : Int × Int) : List Value := [.int .i64 p.1, .int .i64 p.2]
def prow (ps : List (Int × Int)) : List Value := ps.flatMap pairCells
theorem prow_len (ps : List (Int × Int)) : (prow ps).length = ps.length * 2 := by
  induction ps with
  | nil => rfl
  | cons p r ih => simp only [prow, List.flatMap_cons, List.length_append, List.length_cons] at *; rw [ih]; simp [pairCells]; omega
theorem prow_at {ps : List (Int × Int)} {k : Nat} {p : Int × Int} (h : ps[k]? = some p) : (prow ps)[k * 2]? = some (.int .i64 p.1) ∧ (prow ps)[k * 2 + 1]? = some (.int .i64 p.2) := by
  induction ps generalizing k with
  | nil => simp at h
  | cons q r ih =>
    cases k with
    | zero => simp at h; subst h; exact ⟨rfl, rfl⟩
    | succ k =>
      have := ih (k := k) (by simpa using h)
      have e : prow (q :: r) = .int .i64 q.1 :: .int .i64 q.2 :: prow r := rfl
      rw [e, show (k + 1) * 2 = k * 2 + 1 + 1 by omega]
      simpa using this
theorem prow_one (ps : List (Int × Int)) : ∀ u ∈ prow ps, u.oneCell' = true := by
  intro u hu
  obtain ⟨p, _, hp⟩ := List.mem_flatMap.1 hu
  simp only [pairCells, List.mem_cons, List.mem_nil_iff, or_false] at hp
  rcases hp with rfl | rfl <;> rfl
/-- a slice of pairs -/
def Pairs (w : World) (lo hi : Nat) (A : Option Addr) (c : Nat) (ps : List (Int × Int)) : Prop := Cells w lo hi A c ps.length 2 (prow ps)
theorem Pairs.at_ {w : World} {lo hi c : Nat} {A : Option Addr} {ps : List (Int × Int)} (h : Pairs w lo hi A c ps) {k : Nat} (hk : k < ps.length) :
    ∃ b off p, A = some ⟨b, off, none⟩ ∧ ps[k]? = some p ∧ w.cell? ⟨b, off + k * 2, none⟩ = some (.int .i64 p.1) ∧ w.cell? ⟨b, off + k * 2 + 1, none⟩ = some (.int .i64 p.2) ∧ lo ≤ b ∧ b < hi := by
  obtain ⟨b, off, h1, h2, h3, h4⟩ := h.form (by omega)
  have hp : ps[k]? = some ps[k] := List.getElem?_eq_getElem hk
  obtain ⟨e1, e2⟩ := prow_at hp
  exact ⟨b, off, _, h1, hp, h4 _ _ e1, by rw [Nat.add_assoc]; exact h4 _ _ e2, h2, h3⟩
def orI (x y : Int) : Int := if x = 0 then y else x
def cmpI (a b : Int) : Int := if a < b then -1 else if b < a then 1 else 0
