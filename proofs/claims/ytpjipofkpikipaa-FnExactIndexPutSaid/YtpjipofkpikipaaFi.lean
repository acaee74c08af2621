/- Arguments that are slices of rows, opened. No condition. -/
import Derived.Test.YtpjipofkpikipaaFs
import Derived.Test.YtpjipofkpikipaaRa
import Derived.Deep.Matrix
namespace Go.Proofs.Ytpjipofkpikipaa
open Go.ChangeShapes Go.WideShapes Go.ChangeAt Go.RowKit Go.Joins Go.Deep
instance : Inhabited RowV := ⟨⟨none, 0, []⟩⟩
section
variable {H : Type} {enc : TypeId × Value → H} {W : World}
theorem open_rows {r : Reach} {b0 : Nat} {v : Value} {d : DataW H} {p : List MemPlace} (hv : Value.okWide Try.prog W r b0 23 v) (h : DataW.Trod enc Try.prog W 0 (fun _ => true) true 23 v d p) :
    ∃ (A : Option Addr) (len cap : Nat) (rs : List RowV), v = .slice A len cap ∧ rs.length = len ∧ RwsR W W.heap.size A rs ∧ (rs.length ≤ maxLen ∧ ∀ r, r ∈ rs → r.xs.length ≤ maxLen) := by
  obtain ⟨a, len, cap, rfl⟩ := okWide_slice Try.underlying23 hv
  obtain ⟨m, hm⟩ := h
  have hm' : DataW.trod enc Try.prog W 0 (fun _ => true) true m 23 [.slice a len cap] = some (d, p) := hm
  clear hm
  rcases open_int_rows Try.underlying23 Try.underlying28 Try.underlying3 (by kernel_rfl) (by kernel_rfl) hm' with ⟨hcs, _⟩ | ⟨x, l, c, A, L, C, Z, hcs, _, hl, hcm, _, hall⟩
  · simp only [List.cons.injEq, and_true, Value.slice.injEq] at hcs
    obtain ⟨rfl, rfl, rfl⟩ := hcs
    exact ⟨none, 0, 0, [], rfl, rfl, ⟨.inl rfl, by simp⟩, by simp, by simp⟩
  · simp only [List.cons.injEq, and_true, Value.slice.injEq] at hcs
    obtain ⟨rfl, rfl, rfl⟩ := hcs
    have each : ∀ i, i < len → ∃ t : RowV, W.cell? (x.add i) = some (.slice t.a t.xs.length t.c) ∧ IntsR W W.heap.size t.a t.xs ∧ t.xs.length ≤ maxLen := by
      intro i hi
      obtain ⟨e0, e1, e2, e3, e4, e5, e6⟩ := hall i (by omega)
      have hrow : IsRow .i64 W (A i) (L i) (C i) (Z i) := by
        rcases hA : A i with _ | a'
        · have h0 := e5 hA
          have h1 : L i = 0 := by omega
          have h2 : Z i = [] := List.eq_nil_of_length_eq_zero (by omega)
          exact .inl ⟨rfl, h1, h0, h2⟩
        · exact .inr ⟨a', rfl, e1, e2, e3, fun c hc => (e6 a' hA).2 c (by omega), e4⟩
      obtain ⟨ys, hyl, hys, hyw⟩ := ints_of_row hrow
      refine ⟨⟨A i, C i, ys⟩, by rw [e0, hyl], hys, by show ys.length ≤ maxLen; omega⟩
    obtain ⟨f, hf⟩ := choose_lt each
    refine ⟨some x, len, cap, (List.range len).map f, rfl, by simp, ⟨?_, ?_⟩, by simp; omega, ?_⟩
    · by_cases h0 : len = 0
      · left; simp [h0]
      · right
        obtain ⟨b, off, spot⟩ := x
        have h := (hf 0 (by omega)).1
        have hspot : spot = none := by simpa [Addr.add] using World.cell?_spot h
        subst hspot
        have hb : b < W.heap.size := by
          have := World.block_lt_of_cell? W _ h
          simpa [Addr.add] using this
        have hadd : ∀ k, (⟨b, off, none⟩ : Addr).add k = ⟨b, off + k, none⟩ := by
          intro k; unfold Addr.add; split <;> simp_all
        refine ⟨b, off, rfl, hb, fun j t hj => ?_⟩
        rw [List.getElem?_map] at hj
        have hjl : j < len := by
          rcases Nat.lt_or_ge j len with h | h
          · exact h
          · rw [List.getElem?_eq_none (by simpa using h)] at hj; cases hj
        rw [List.getElem?_range hjl] at hj
        obtain rfl := Option.some.inj hj
        have := (hf j hjl).1
        rwa [hadd] at this
    · intro t ht
      obtain ⟨i, hi, rfl⟩ := List.mem_map.1 ht
      exact (hf i (List.mem_range.1 hi)).2.1
    · intro t ht
      obtain ⟨i, hi, rfl⟩ := List.mem_map.1 ht
      exact (hf i (List.mem_range.1 hi)).2.2
end
end Go.Proofs.Ytpjipofkpikipaa
