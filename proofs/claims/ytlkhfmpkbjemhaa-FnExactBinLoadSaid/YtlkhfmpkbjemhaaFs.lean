/- Arguments that are slices of tasks, opened. No condition. -/
import Derived.Test.YtlkhfmpkbjemhaaFr
import Derived.Test.YtlkhfmpkbjemhaaTv
namespace Go.Proofs.Ytlkhfmpkbjemhaa
open Go.ChangeShapes Go.WideShapes Go.ChangeAt Go.RowKit Go.Joins Go.Deep
instance : Inhabited TaskV := ⟨⟨0, none, 0, []⟩⟩
section
variable {H : Type} {enc : TypeId × Value → H} {W : World}
theorem open_intsA {r : Reach} {b0 : Nat} {v : Value} {d : DataW H} {p : List MemPlace} (hv : Value.okWide Try.prog W r b0 23 v) (h : DataW.Trod enc Try.prog W 0 (fun _ => true) true 23 v d p) :
    ∃ (A : Option Addr) (len cap : Nat) (ys : List Int), v = .slice A len cap ∧ ys.length = len ∧ IntsR W W.heap.size A ys ∧ ys.length ≤ maxLen := by
  obtain ⟨a, len, cap, rfl⟩ := okWide_slice Try.underlying23 hv
  obtain ⟨m, hm⟩ := h
  obtain ⟨A, n, c, zs, hcs, hr⟩ := row_of_cells Try.underlying23 Try.underlying3 (by kernel_rfl) hm
  have hcs' : [Value.slice a len cap] = [.slice A n c] := hcs
  simp only [List.cons.injEq, and_true, Value.slice.injEq] at hcs'
  obtain ⟨rfl, rfl, rfl⟩ := hcs'
  obtain ⟨ys, hyl, hys, _⟩ := ints_of_row hr
  have := row_len hr
  exact ⟨_, _, _, ys, rfl, hyl, hys, by omega⟩
theorem open_intA {r : Reach} {b0 : Nat} {v : Value} {d : DataW H} {p : List MemPlace} (_hv : Value.okWide Try.prog W r b0 3 v) (h : DataW.Trod enc Try.prog W 0 (fun _ => true) true 3 v d p) :
    ∃ z : Int, v = .int .i64 z ∧ (Lit.int .i64 z).wf = true := by
  have hi : ∃ z, v = .int .i64 z := by
    have h1 := _hv
    simp only [Value.okWide, Try.underlying3, Cell.okWide] at h1
    cases v <;> simp_all [Cell.ok]
  obtain ⟨z, rfl⟩ := hi
  obtain ⟨m, hm⟩ := h
  obtain ⟨z', hz, _, wz⟩ := DataW.trod_int Try.underlying3 hm
  have hz' : [Value.int .i64 z] = [.int .i64 z'] := hz
  simp only [List.cons.injEq, and_true, Value.int.injEq, true_and] at hz'
  subst hz'
  exact ⟨z, rfl, wz⟩
theorem open_tasks {r : Reach} {b0 : Nat} {v : Value} {d : DataW H} {p : List MemPlace} (hv : Value.okWide Try.prog W r b0 33 v) (h : DataW.Trod enc Try.prog W 0 (fun _ => true) true 33 v d p) :
    ∃ (A : Option Addr) (len cap : Nat) (ts : List TaskV), v = .slice A len cap ∧ ts.length = len ∧ TasksR W W.heap.size A ts ∧ (ts.length ≤ maxLen ∧ ∀ t, t ∈ ts → t.need.length ≤ maxLen ∧ (Lit.int .i64 t.id).wf = true) := by
  obtain ⟨a, len, cap, rfl⟩ := okWide_slice Try.underlying33 hv
  obtain ⟨m, hm⟩ := h
  have hm' : DataW.trod enc Try.prog W 0 (fun _ => true) true m 33 [.slice a len cap] = some (d, p) := hm
  clear hm
  rcases open_slice_pairs Try.underlying33 Try.underlying50 (by kernel_rfl) rfl rfl (by kernel_rfl) (by kernel_rfl) hm' with ⟨hcs, _⟩ | ⟨x, l, c, m', n', V0, V1, D0, D1, P0, P1, hcs, _, hl, hcm, hmm, _, hall⟩
  · simp only [List.cons.injEq, and_true, Value.slice.injEq] at hcs
    obtain ⟨rfl, rfl, rfl⟩ := hcs
    exact ⟨none, 0, 0, [], rfl, rfl, ⟨.inl rfl, by simp⟩, by simp, by simp⟩
  · simp only [List.cons.injEq, and_true, Value.slice.injEq] at hcs
    obtain ⟨rfl, rfl, rfl⟩ := hcs
    have hlm : len ≤ m' := by rw [hmm]; simp; omega
    have each : ∀ i, i < len → ∃ t : TaskV, W.cell? (x.add (i * 2)) = some (.int .i64 t.id) ∧ W.cell? (x.add (i * 2 + 1)) = some (.slice t.a t.need.length t.c) ∧ IntsR W W.heap.size t.a t.need ∧ t.need.length ≤ maxLen ∧ (Lit.int .i64 t.id).wf = true := by
      intro i hi
      obtain ⟨e0, e1, g0, g1⟩ := hall i (by omega)
      obtain ⟨z, hz, _, wz⟩ := DataW.trod_int Try.underlying3 g0
      obtain ⟨A1, n1, c1, zs, hA, hr⟩ := row_of_cells Try.underlying23 Try.underlying3 (by kernel_rfl) g1
      simp at hz hA
      obtain ⟨ys, hyl, hys, hyw⟩ := ints_of_row hr
      have hrl := row_len hr
      refine ⟨⟨z, A1, c1, ys⟩, by rw [e0, hz], by rw [e1, hA, hyl], hys, by show ys.length ≤ maxLen; omega, wz⟩
    obtain ⟨f, hf⟩ := choose_lt each
    refine ⟨some x, len, cap, (List.range len).map f, rfl, by simp, ⟨?_, ?_⟩, by simp; omega, ?_⟩
    · by_cases h0 : len = 0
      · left; simp [h0]
      · right
        obtain ⟨b, off, spot⟩ := x
        have h := (hf 0 (by omega)).1
        have hspot : spot = none := by simpa [Addr.add] using World.cell?_spot h
        subst hspot
        have hb : b < W.heap.size := by
          have := World.block_lt_of_cell? W _ h
          simpa [Addr.add] using this
        have hadd : ∀ k, (⟨b, off, none⟩ : Addr).add k = ⟨b, off + k, none⟩ := by
          intro k; unfold Addr.add; split <;> simp_all
        refine ⟨b, off, rfl, hb, fun j t hj => ?_⟩
        rw [List.getElem?_map] at hj
        have hjl : j < len := by
          rcases Nat.lt_or_ge j len with h | h
          · exact h
          · rw [List.getElem?_eq_none (by simpa using h)] at hj; cases hj
        rw [List.getElem?_range hjl] at hj
        obtain rfl := Option.some.inj hj
        have := hf j hjl
        rw [hadd, hadd] at this
        exact ⟨this.1, by rw [Nat.add_assoc]; exact this.2.1⟩
    · intro t ht
      obtain ⟨i, hi, rfl⟩ := List.mem_map.1 ht
      exact (hf i (List.mem_range.1 hi)).2.2.1
    · intro t ht
      obtain ⟨i, hi, rfl⟩ := List.mem_map.1 ht
      exact ⟨(hf i (List.mem_range.1 hi)).2.2.2.1, (hf i (List.mem_range.1 hi)).2.2.2.2⟩
end
end Go.Proofs.Ytlkhfmpkbjemhaa
