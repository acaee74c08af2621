/- Contracts over slices of pairs. No condition but on sizes. -/
import Derived.Test.YtojbljaleconpaaRw
import Derived.Test.YtojbljaleconpaaVb
import Derived.Test.YtojbljaleconpaaLw
namespace Go.Proofs.Ytojbljaleconpaa
open Go.RowKit
def pairCells (p : Int × Int) : List Value := [.int .i64 p.1, .int .i64 p.2]
def prow (ps : List (Int × Int)) : List Value := ps.flatMap pairCells
theorem prow_len (ps : List (Int × Int)) : (prow ps).length = ps.length * 2 := by
  induction ps with
  | nil => rfl
  | cons p r ih => simp only [prow, List.flatMap_cons, List.length_append, List.length_cons] at *; rw [ih]; simp [pairCells]; omega
theorem prow_at {ps : List (Int × Int)} {k : Nat} {p : Int × Int} (h : ps[k]? = some p) : (prow ps)[k * 2]? = some (.int .i64 p.1) ∧ (prow ps)[k * 2 + 1]? = some (.int .i64 p.2) := by
  induction ps generalizing k with
  | nil => simp at h
  | cons q r ih =>
    cases k with
    | zero => simp at h; subst h; exact ⟨rfl, rfl⟩
    | succ k =>
      have := ih (k := k) (by simpa using h)
      have e : prow (q :: r) = .int .i64 q.1 :: .int .i64 q.2 :: prow r := rfl
      rw [e, show (k + 1) * 2 = k * 2 + 1 + 1 by omega]
      simpa using this
theorem prow_one (ps : List (Int × Int)) : ∀ u ∈ prow ps, u.oneCell' = true := by
  intro u hu
  obtain ⟨p, _, hp⟩ := List.mem_flatMap.1 hu
  simp only [pairCells, List.mem_cons, List.mem_nil_iff, or_false] at hp
  rcases hp with rfl | rfl <;> rfl
/-- a slice of pairs -/
def Pairs (w : World) (lo hi : Nat) (A : Option Addr) (c : Nat) (ps : List (Int × Int)) : Prop := Cells w lo hi A c ps.length 2 (prow ps)
theorem Pairs.at_ {w : World} {lo hi c : Nat} {A : Option Addr} {ps : List (Int × Int)} (h : Pairs w lo hi A c ps) {k : Nat} (hk : k < ps.length) :
    ∃ b off p, A = some ⟨b, off, none⟩ ∧ ps[k]? = some p ∧ w.cell? ⟨b, off + k * 2, none⟩ = some (.int .i64 p.1) ∧ w.cell? ⟨b, off + k * 2 + 1, none⟩ = some (.int .i64 p.2) ∧ lo ≤ b ∧ b < hi := by
  obtain ⟨b, off, h1, h2, h3, h4⟩ := h.form (by omega)
  have hp : ps[k]? = some ps[k] := List.getElem?_eq_getElem hk
  obtain ⟨e1, e2⟩ := prow_at hp
  exact ⟨b, off, _, h1, hp, h4 _ _ e1, by rw [Nat.add_assoc]; exact h4 _ _ e2, h2, h3⟩
theorem isNaN_any (n : Int) (w : World) : Calls Try.prog 86 #[.int .i64 n] w fun e w' => e = .returned (.bool false) ∧ w = w' := by
  go_enter Try.func86, Try.ntmps86
  go_wp2
  go_ret
  exact ⟨by simp, rfl⟩
def orI (x y : Int) : Int := if x = 0 then y else x
def cmpI (a b : Int) : Int := if a < b then -1 else if b < a then 1 else 0
theorem compare_any (a b : Int) (w : World) : Calls Try.prog 78 #[.int .i64 a, .int .i64 b] w fun e w' => e = .returned (.int .i64 (cmpI a b)) ∧ w = w' := by
  by_cases h1 : a < b
  · go_enter Try.func78, Try.ntmps78
    go_wp2_with (go_at_call 86; refine (isNaN_any _ _).mono ?_; rintro e w' ⟨rfl, rfl⟩)
    go_ret
    exact ⟨by simp [cmpI, h1], rfl⟩
  · by_cases h2 : b < a
    · go_enter Try.func78, Try.ntmps78
      go_wp2_with (go_at_call 86; refine (isNaN_any _ _).mono ?_; rintro e w' ⟨rfl, rfl⟩)
      go_ret
      exact ⟨by simp [cmpI]; omega, rfl⟩
    · have h3 : a = b := by omega
      subst h3
      go_enter Try.func78, Try.ntmps78
      go_wp2_with (go_at_call 86; refine (isNaN_any _ _).mono ?_; rintro e w' ⟨rfl, rfl⟩)
      go_ret
      exact ⟨by simp [cmpI], rfl⟩
/-- cmp.Or of a literal of two ints -/
theorem or_any (b c : Nat) (x y : Int) (w : World) (h0 : w.cell? ⟨b, 0, none⟩ = some (.int .i64 x)) (h1 : w.cell? ⟨b, 1, none⟩ = some (.int .i64 y)) :
    Calls Try.prog 77 #[.slice (some ⟨b, 0, none⟩) 2 c] w fun e w' => e = .returned (.int .i64 (orI x y)) ∧ w = w' := by
  by_cases hx : x = 0
  · subst hx
    by_cases hy : y = 0
    · subst hy
      go_enter Try.func77, Try.ntmps77
      go_wp2_with fail
      refine wp_loop_rounds 3 ?_
      rw [rounds_succ]; go_wp2_with fail; rw [rounds_succ]; go_wp2_with fail; rw [rounds_succ]; go_wp2_with fail
      go_ret
      exact ⟨by simp [orI], rfl⟩
    · have hyd : (y != 0) = true := by simp [hy]
      go_enter Try.func77, Try.ntmps77
      go_wp2_with fail
      refine wp_loop_rounds 3 ?_
      rw [rounds_succ]; go_wp2_with fail; rw [rounds_succ]; go_wp2_with fail
      go_ret
      exact ⟨by simp [orI], rfl⟩
  · have hxd : (x != 0) = true := by simp [hx]
    go_enter Try.func77, Try.ntmps77
    go_wp2_with fail
    refine wp_loop_rounds 3 ?_
    rw [rounds_succ]; go_wp2_with fail
    go_ret
    exact ⟨by simp [orI, hx], rfl⟩
theorem lit_cell (w : World) (cs : Array Value) (e : TypeId) (b : Nat) (hb : b = w.heap.size) (i : Nat) (v : Value) (h : cs[i]? = some v) : (w.alloc (.cells cs e)).drew.cell? ⟨b, i, none⟩ = some v := by
  show (w.alloc (.cells cs e)).cell? ⟨b, i, none⟩ = some v
  rw [World.cell?_alloc_at _ _ _ _ hb]; exact h
def pcmp (p q : Int × Int) : Int := orI (cmpI p.1 q.1) (cmpI p.2 q.2)
theorem pcompare_any (a b c d : Int) (w : World) :
    Calls Try.prog 57 #[.agg #[.int .i64 a, .int .i64 b], .agg #[.int .i64 c, .int .i64 d]] w fun e w' => e = .returned (.int .i64 (pcmp (a, b) (c, d))) ∧ Below w.heap.size w w' := by
  go_enter Try.func57, Try.ntmps57
  go_wp2_with fail
  go_region_held3 (fun w' => w'.cell? ⟨w.heap.size, 0, none⟩ = some (.int .i64 a) ∧ w'.cell? ⟨w.heap.size, 1, none⟩ = some (.int .i64 b) ∧ w'.cell? ⟨w.heap.size + 1, 0, none⟩ = some (.int .i64 c) ∧ w'.cell? ⟨w.heap.size + 1, 1, none⟩ = some (.int .i64 d))
    (go_keep)
    (first
      | (go_at_call 78; refine (compare_any _ _ _).mono ?_; rintro e w' ⟨rfl, rfl⟩)
      | (go_at_call 77; refine (or_any _ _ (cmpI a c) (cmpI b d) _ (lit_cell _ _ _ _ (by simp) 0 _ rfl) (lit_cell _ _ _ _ (by simp) 1 _ rfl)).mono ?_; rintro e w' ⟨rfl, rfl⟩))
  go_wp2_with fail
  go_ret
  exact ⟨by simp [pcmp], ((((Below.refl _ _).alloc (Nat.le_refl _) _).alloc (by simp) _).alloc (by simp; omega) _).drew⟩
end Go.Proofs.Ytojbljaleconpaa
