/- Two parts of a list of tasks, appended to a new slice. No condition. -/
import Derived.Test.YthfhlcmgeacddaaBa
namespace Go.Proofs.Ythfhlcmgeacddaa
open Go.RowKit
theorem Tasks.two {w w5 : World} {lo hi base e d n c3 k1 k2 : Nat} {B A3 : Option Addr} {ts : List TaskV} (hT : Tasks w lo hi B d ts) (hb : Below base w w5) (hh : hi ≤ base) (hs : base ≤ w5.heap.size)
    (h : w5.ownsRow base e 2 (.slice A3 n c3) n (([] ++ trow (ts.take k1)) ++ trow (ts.drop k2))) (hn : n = (ts.take k1 ++ ts.drop k2).length) :
    Tasks w5 0 w5.heap.size A3 c3 (ts.take k1 ++ ts.drop k2) := by
  rw [List.nil_append, ← trow_app] at h
  subst hn
  obtain ⟨A9, c9, he9, hT9⟩ := Tasks.of_own (ownsRow_base h (Nat.zero_le _)) (fun t ht => by
    have hm : t ∈ ts := by
      rcases List.mem_append.1 ht with h | h
      · exact List.mem_of_mem_take h
      · exact List.mem_of_mem_drop h
    exact ((hT.2 t hm).below hb hh).mono (Nat.zero_le _) (by omega))
  simp only [Value.slice.injEq] at he9
  obtain ⟨rfl, -, rfl⟩ := he9
  exact hT9
theorem mem_two {ts : List TaskV} {k1 k2 : Nat} : ∀ t, t ∈ ts.take k1 ++ ts.drop k2 → t ∈ ts := by
  intro t ht
  rcases List.mem_append.1 ht with h | h
  · exact List.mem_of_mem_take h
  · exact List.mem_of_mem_drop h
theorem two_len {α : Type} {ts : List α} {k1 k2 : Nat} (h1 : k1 ≤ ts.length) : (ts.take k1 ++ ts.drop k2).length = k1 + (ts.length - k2) := by
  rw [List.length_append, List.length_take, List.length_drop]; omega
/-- in each dimension the load less one task's need -/
theorem load_out {ts : List TaskV} {k i : Nat} {t : TaskV} (hk : ts[k]? = some t) (hi : i < 3) (hn : t.need.length = 3) : ∃ a b y : Int, (loadL (needs ts))[i]? = some a ∧ (loadL (needs (ts.take k ++ ts.drop (k + 1))))[i]? = some b ∧ t.need[i]? = some y ∧ a = b + y := by
  have hc := fun j => loadC_out (j := j) (needs_at hk)
  have e : (needs ts).take k ++ (needs ts).drop (k + 1) = needs (ts.take k ++ ts.drop (k + 1)) := by simp [needs]
  rw [e] at hc
  match t.need, hn, hc with
  | [x, y, z], _, hc =>
    match i, hi with
    | 0, _ => exact ⟨_, _, x, rfl, rfl, rfl, by simpa using hc 0⟩
    | 1, _ => exact ⟨_, _, y, rfl, rfl, rfl, by simpa using hc 1⟩
    | 2, _ => exact ⟨_, _, z, rfl, rfl, rfl, by simpa using hc 2⟩
theorem load_small2 {ts : List TaskV} (hg : ∀ t, t ∈ ts → GoodN t.need) (hl : ts.length ≤ 1000) : ∀ x, x ∈ loadL (needs ts) → -1000000 ≤ x ∧ x ≤ 1000000 := by
  intro x hx
  have := load_small hg hl (Nat.le_refl _) x (by rwa [List.take_of_length_le (Nat.le_refl _)])
  omega
theorem binLoad_no {room : List Int} {ps : List (Int × List Int)} (h : tasksB room ps = false) : binLoad room ps = [] := by rw [binLoad, if_neg (by simp [h])]
theorem binLoad_yes {room : List Int} {ts : List TaskV} (h : tasksB room (ts.map pv) = true) : binLoad room (ts.map pv) = loadL (needs ts) := by rw [binLoad, if_pos h, needs_pv]
end Go.Proofs.Ythfhlcmgeacddaa
