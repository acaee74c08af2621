/- An argument that is a request, opened. No condition. -/
import Derived.Test.YtojbljaleconpaaFr
namespace Go.Proofs.Ytojbljaleconpaa
open Go.ChangeShapes Go.WideShapes Go.ChangeAt Go.RowKit Go.Joins
theorem array5q {α : Type} {cs : Array α} (h : cs.size = 5) : ∃ c0 c1 c2 c3 c4, cs = #[c0, c1, c2, c3, c4] := by
  obtain ⟨l⟩ := cs
  match l, h with
  | [c0, c1, c2, c3, c4], _ => exact ⟨c0, c1, c2, c3, c4, rfl⟩
section
variable {H : Type} {enc : TypeId × Value → H} {W : World}
theorem open_req {r : Reach} {b0 : Nat} {v : Value} {d : DataW H} {p : List MemPlace} (hv : Value.okWide Try.prog W r b0 51 v) (h : DataW.Trod enc Try.prog W 0 (fun _ => true) true 51 v d p) :
    ∃ (kind i : Int) (A : Option Addr) (n c : Nat) (ys : List Int) (g : Bool) (num : Int), v = .agg #[.int .i64 kind, .int .i64 i, .slice A n c, .bool g, .int .i64 num] ∧ ys.length = n ∧ IntsR W W.heap.size A ys ∧ ys.length ≤ maxLen := by
  obtain ⟨cs, rfl, hsz⟩ := okWide_struct Try.underlying51 hv
  obtain ⟨v0, v1, v2, v3, v4, rfl⟩ := array5q (hsz.trans (by kernel_rfl))
  obtain ⟨fuel, hf⟩ := h
  obtain ⟨y0, y1, y2, y3, n, _, _, h0, h1, h2, h3⟩ := trod_struct4 Try.underlying51 hf
  have c3 : Try.prog.cellsOf 3 = 1 := by kernel_rfl
  have c4 : Try.prog.cellsOf 4 = 1 := by kernel_rfl
  have cT : Try.prog.cellsOf 49 = 2 := by kernel_rfl
  simp [Value.cells, c3, c4, cT] at h0 h1 h2 h3
  obtain ⟨z0, z1, m, _, _, g0, g1⟩ := trod_struct2 Try.underlying49 h1
  have cS : Try.prog.cellsOf 23 = 1 := by kernel_rfl
  simp [c3, cS] at g0 g1
  obtain ⟨kind, e0, _, w0⟩ := DataW.trod_int Try.underlying3 h0
  obtain ⟨i, e1, _, w1⟩ := DataW.trod_int Try.underlying3 g0
  obtain ⟨A, n', c, zs, e2, hr⟩ := row_of_cells Try.underlying23 Try.underlying3 (by kernel_rfl) g1
  obtain ⟨g, e3, _⟩ := DataW.trod_bool Try.underlying4 h2
  obtain ⟨num, e4, _, w4⟩ := DataW.trod_int Try.underlying3 h3
  simp at e0 e1 e2 e3 e4
  subst e0 e1 e2 e3 e4
  obtain ⟨ys, hyl, hys, _⟩ := ints_of_row hr
  have hl := row_len hr
  exact ⟨kind, i, A, n', c, ys, g, num, rfl, hyl, hys, by omega⟩
end
end Go.Proofs.Ytojbljaleconpaa
