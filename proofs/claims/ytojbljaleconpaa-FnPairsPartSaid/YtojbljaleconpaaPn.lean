/- Plain laws of pairs: what is left when one is missing, and one twice. No condition. -/
import Derived.Test.YtojbljaleconpaaPq
namespace Go.Proofs.Ytojbljaleconpaa
open Go.RowKit
theorem plt_trans {a b c : Int × Int} (h1 : plt a b = true) (h2 : plt b c = true) : plt a c = true := by
  simp only [plt, decide_eq_true_eq] at *; omega
theorem plt_irrefl (a : Int × Int) : plt a a = false := by simp [plt]
/-- a pair by itself -/
def oneP (p : Int × Int) : Bool := inB p.1 1 40 && inB p.2 (p.1 + 1) 40
theorem pairsB_of {ps : List (Int × Int)} (h : pairsB ps = true) : ps.length ≤ 8 ∧ (∀ (k : Nat) p, ps[k]? = some p → oneP p = true) ∧ (∀ (j : Nat) q p, ps[j]? = some q → ps[j + 1]? = some p → plt q p = true) := by
  simp only [pairsB, Bool.and_eq_true, decide_eq_true_eq, List.all_eq_true, List.mem_range] at h
  refine ⟨h.2, fun k p hp => ?_, fun j q p hq hp => ?_⟩
  · have hk : k < ps.length := (List.getElem?_eq_some_iff.1 hp).1
    have := h.1 k hk
    cases k with
    | zero => rw [pairOk_zero hp] at this; exact this
    | succ j =>
      obtain ⟨q, hq⟩ : ∃ q, ps[j]? = some q := ⟨_, List.getElem?_eq_getElem (by omega)⟩
      rw [pairOk_succ hp hq, Bool.and_eq_true] at this
      exact this.1
  · have hk : j + 1 < ps.length := (List.getElem?_eq_some_iff.1 hp).1
    have := h.1 _ hk
    rw [pairOk_succ hp hq, Bool.and_eq_true] at this
    exact this.2
theorem pairsB_mk {ps : List (Int × Int)} (h1 : ps.length ≤ 8) (h2 : ∀ (k : Nat) p, ps[k]? = some p → oneP p = true) (h3 : ∀ (j : Nat) q p, ps[j]? = some q → ps[j + 1]? = some p → plt q p = true) : pairsB ps = true := by
  simp only [pairsB, Bool.and_eq_true, decide_eq_true_eq, List.all_eq_true, List.mem_range]
  refine ⟨fun k hk => ?_, h1⟩
  obtain ⟨p, hp⟩ : ∃ p, ps[k]? = some p := ⟨_, List.getElem?_eq_getElem hk⟩
  cases k with
  | zero => rw [pairOk_zero hp]; exact h2 _ _ hp
  | succ j =>
    obtain ⟨q, hq⟩ : ∃ q, ps[j]? = some q := ⟨_, List.getElem?_eq_getElem (by omega)⟩
    rw [pairOk_succ hp hq, Bool.and_eq_true]
    exact ⟨h2 _ _ hp, h3 _ _ _ hq hp⟩
theorem out_at {α : Type} {ts : List α} {k j : Nat} (hk : k < ts.length) : (ts.take k ++ ts.drop (k + 1))[j]? = if j < k then ts[j]? else ts[j + 1]? := by
  rw [List.getElem?_append, List.length_take, Nat.min_eq_left (by omega), List.getElem?_take, List.getElem?_drop]
  split
  · rfl
  · rw [show k + 1 + (j - k) = j + 1 by omega]
theorem pairs_out {ps : List (Int × Int)} (h : pairsB ps = true) {k : Nat} (hk : k < ps.length) : pairsB (ps.take k ++ ps.drop (k + 1)) = true := by
  obtain ⟨h1, h2, h3⟩ := pairsB_of h
  refine pairsB_mk (by rw [List.length_append, List.length_take, List.length_drop]; omega) (fun j p hp => ?_) (fun j q p hq hp => ?_)
  · rw [out_at hk] at hp
    split at hp
    · exact h2 _ _ hp
    · exact h2 _ _ hp
  · rw [out_at hk] at hq hp
    by_cases c1 : j + 1 < k
    · rw [if_pos (by omega)] at hq
      rw [if_pos c1] at hp
      exact h3 _ _ _ hq hp
    · rw [if_neg c1] at hp
      by_cases c2 : j < k
      · rw [if_pos c2] at hq
        have hl := (List.getElem?_eq_some_iff.1 hp).1
        obtain ⟨m, hm⟩ : ∃ m, ps[j + 1]? = some m := ⟨_, List.getElem?_eq_getElem (by omega)⟩
        exact plt_trans (h3 _ _ _ hq hm) (h3 _ _ _ hm hp)
      · rw [if_neg c2] at hq
        exact h3 _ _ _ hq hp
theorem pairs_twice {ps : List (Int × Int)} {k : Nat} (hk : k < ps.length) : pairsB (ps.take (k + 1) ++ ps.drop k) = false := by
  obtain ⟨p, hp⟩ : ∃ p, ps[k]? = some p := ⟨_, List.getElem?_eq_getElem hk⟩
  have e1 : (ps.take (k + 1) ++ ps.drop k)[k]? = some p := by
    rw [List.getElem?_append_left (by rw [List.length_take]; omega), List.getElem?_take, if_pos (by omega), hp]
  have e2 : (ps.take (k + 1) ++ ps.drop k)[k + 1]? = some p := by
    rw [List.getElem?_append_right (by rw [List.length_take]; omega), List.length_take, List.getElem?_drop, show k + (k + 1 - min (k + 1) ps.length) = k by omega, hp]
  refine pairs_false (k := k + 1) (by rw [List.length_append, List.length_take, List.length_drop]; omega) ?_
  rw [pairOk_succ e2 e1, plt_irrefl, Bool.and_false]
theorem prow_app (s t : List (Int × Int)) : prow (s ++ t) = prow s ++ prow t := by simp [prow]
theorem prow_take (ps : List (Int × Int)) (k : Nat) : (prow ps).take (k * 2) = prow (ps.take k) := by
  induction ps generalizing k with
  | nil => simp [prow]
  | cons p r ih =>
    cases k with
    | zero => simp [prow]
    | succ k =>
      have e : prow (p :: r) = .int .i64 p.1 :: .int .i64 p.2 :: prow r := rfl
      rw [e, show (k + 1) * 2 = k * 2 + 1 + 1 by omega, List.take_succ_cons, List.take_succ_cons, ih, List.take_succ_cons]; rfl
theorem prow_drop (ps : List (Int × Int)) (k : Nat) : (prow ps).drop (k * 2) = prow (ps.drop k) := by
  induction ps generalizing k with
  | nil => simp [prow]
  | cons p r ih =>
    cases k with
    | zero => simp [prow]
    | succ k =>
      have e : prow (p :: r) = .int .i64 p.1 :: .int .i64 p.2 :: prow r := rfl
      rw [e, show (k + 1) * 2 = k * 2 + 1 + 1 by omega, List.drop_succ_cons, List.drop_succ_cons, ih, List.drop_succ_cons]
section
variable {w : World} {lo hi c k : Nat} {A : Option Addr} {ps : List (Int × Int)}
theorem Pairs.cut (h : Pairs w lo hi A c ps) (hk : k ≤ ps.length) : Cells w lo hi A c k 2 (prow (ps.take k)) := by
  have := Cells.take h hk
  rwa [prow_take] at this
theorem Pairs.rest (h : Pairs w lo hi A c ps) (hk : k ≤ ps.length) : Cells w lo hi (if c = k then A else A.map (·.add (k * 2))) (c - k) (ps.length - k) 2 (prow (ps.drop k)) := by
  have := Cells.drop h hk
  rwa [prow_drop] at this
theorem Pairs.two {base e n k1 k2 : Nat} (h : w.ownsRow base e 2 (.slice A n c) n (([] ++ prow (ps.take k1)) ++ prow (ps.drop k2))) (hn : n = (ps.take k1 ++ ps.drop k2).length) : Pairs w base w.heap.size A c (ps.take k1 ++ ps.drop k2) := by
  rw [List.nil_append, ← prow_app] at h
  subst hn
  obtain ⟨A9, c9, he, hC⟩ := Cells.of_own h
  simp only [Value.slice.injEq, true_and] at he
  obtain ⟨rfl, rfl⟩ := he
  exact hC
end
end Go.Proofs.Ytojbljaleconpaa
