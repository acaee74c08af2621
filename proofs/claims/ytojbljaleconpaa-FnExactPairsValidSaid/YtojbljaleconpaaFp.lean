/- Arguments that are slices of pairs, opened. No condition. -/
import Derived.Test.YtojbljaleconpaaFs
import Derived.Test.YtojbljaleconpaaPz
namespace Go.Proofs.Ytojbljaleconpaa
open Go.ChangeShapes Go.WideShapes Go.ChangeAt Go.RowKit Go.Joins Go.Deep
section
variable {H : Type} {enc : TypeId × Value → H} {W : World}
theorem open_pairs {r : Reach} {b0 : Nat} {v : Value} {d : DataW H} {p : List MemPlace} (hv : Value.okWide Try.prog W r b0 35 v) (h : DataW.Trod enc Try.prog W 0 (fun _ => true) true 35 v d p) :
    ∃ (A : Option Addr) (len cap : Nat) (ts : List (Int × Int)), v = .slice A len cap ∧ ts.length = len ∧ PairsR W W.heap.size A ts ∧ (ts.length ≤ maxLen ∧ ∀ t, t ∈ ts → (Lit.int .i64 t.1).wf = true ∧ (Lit.int .i64 t.2).wf = true) := by
  obtain ⟨a, len, cap, rfl⟩ := okWide_slice Try.underlying35 hv
  obtain ⟨m, hm⟩ := h
  have hm' : DataW.trod enc Try.prog W 0 (fun _ => true) true m 35 [.slice a len cap] = some (d, p) := hm
  clear hm
  rcases open_slice_pairs Try.underlying35 Try.underlying76 (by kernel_rfl) rfl rfl (by kernel_rfl) (by kernel_rfl) hm' with ⟨hcs, _⟩ | ⟨x, l, c, m', n', V0, V1, D0, D1, P0, P1, hcs, _, hl, hcm, hmm, _, hall⟩
  · simp only [List.cons.injEq, and_true, Value.slice.injEq] at hcs
    obtain ⟨rfl, rfl, rfl⟩ := hcs
    exact ⟨none, 0, 0, [], rfl, rfl, .inl rfl, by simp, by simp⟩
  · simp only [List.cons.injEq, and_true, Value.slice.injEq] at hcs
    obtain ⟨rfl, rfl, rfl⟩ := hcs
    have hlm : len ≤ m' := by rw [hmm]; simp; omega
    have each : ∀ i, i < len → ∃ t : Int × Int, W.cell? (x.add (i * 2)) = some (.int .i64 t.1) ∧ W.cell? (x.add (i * 2 + 1)) = some (.int .i64 t.2) ∧ (Lit.int .i64 t.1).wf = true ∧ (Lit.int .i64 t.2).wf = true := by
      intro i hi
      obtain ⟨e0, e1, g0, g1⟩ := hall i (by omega)
      obtain ⟨z, hz, _, wz⟩ := DataW.trod_int Try.underlying3 g0
      obtain ⟨z1, hz1, _, wz1⟩ := DataW.trod_int Try.underlying3 g1
      simp at hz hz1
      exact ⟨⟨z, z1⟩, by rw [e0, hz], by rw [e1, hz1], wz, wz1⟩
    obtain ⟨f, hf⟩ : ∃ f : Nat → Int × Int, ∀ i, i < len → W.cell? (x.add (i * 2)) = some (.int .i64 (f i).1) ∧ W.cell? (x.add (i * 2 + 1)) = some (.int .i64 (f i).2) ∧ (Lit.int .i64 (f i).1).wf = true ∧ (Lit.int .i64 (f i).2).wf = true := choose_lt each
    refine ⟨some x, len, cap, (List.range len).map f, rfl, by simp, ?_, by simp; omega, ?_⟩
    · by_cases h0 : len = 0
      · left; simp [h0]
      · right
        obtain ⟨b, off, spot⟩ := x
        have h := (hf 0 (by omega)).1
        have hspot : spot = none := by simpa [Addr.add] using World.cell?_spot h
        subst hspot
        have hb : b < W.heap.size := by
          have := World.block_lt_of_cell? W _ h
          simpa [Addr.add] using this
        have hadd : ∀ k, (⟨b, off, none⟩ : Addr).add k = ⟨b, off + k, none⟩ := by
          intro k; unfold Addr.add; split <;> simp_all
        refine ⟨b, off, rfl, hb, fun j t hj => ?_⟩
        rw [List.getElem?_map] at hj
        have hjl : j < len := by
          rcases Nat.lt_or_ge j len with h | h
          · exact h
          · rw [List.getElem?_eq_none (by simpa using h)] at hj; cases hj
        rw [List.getElem?_range hjl] at hj
        obtain rfl := Option.some.inj hj
        have := hf j hjl
        rw [hadd, hadd] at this
        exact ⟨this.1, by rw [Nat.add_assoc]; exact this.2.1⟩
    · intro t ht
      obtain ⟨i, hi, rfl⟩ := List.mem_map.1 ht
      exact (hf i (List.mem_range.1 hi)).2.2
end
end Go.Proofs.Ytojbljaleconpaa
