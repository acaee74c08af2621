/- Arguments that are slices of tasks, opened. No condition. -/
import Derived.Test.YtojbljaleconpaaDoorFr
import Derived.Test.YtojbljaleconpaaDoorTv
namespace Go.Proofs.YtojbljaleconpaaDoor
open Go.ChangeShapes Go.WideShapes Go.ChangeAt Go.RowKit Go.Joins Go.Deep
instance : Inhabited TaskV := ⟨⟨0, none, 0, []⟩⟩
section
variable {H : Type} {enc : TypeId × Value → H} {W : World}
set_option maxRecDepth 100000
theorem open_intsA {r : Reach} {b0 : Nat} {v : Value} {d : DataW H} {p : List MemPlace} (hv : Value.okWide Tryd.prog W r b0 22 v) (h : DataW.Trod enc Tryd.prog W 0 (fun _ => true) true 22 v d p) :
    ∃ (A : Option Addr) (len cap : Nat) (ys : List Int), v = .slice A len cap ∧ ys.length = len ∧ IntsR W W.heap.size A ys ∧ ys.length ≤ maxLen := by
  obtain ⟨a, len, cap, rfl⟩ := okWide_slice Tryd.underlying22 hv
  obtain ⟨m, hm⟩ := h
  obtain ⟨A, n, c, zs, hcs, hr⟩ := row_of_cells Tryd.underlying22 Tryd.underlying3 (by kernel_rfl) hm
  have hcs' : [Value.slice a len cap] = [.slice A n c] := hcs
  simp only [List.cons.injEq, and_true, Value.slice.injEq] at hcs'
  obtain ⟨rfl, rfl, rfl⟩ := hcs'
  obtain ⟨ys, hyl, hys, _⟩ := ints_of_row hr
  have := row_len hr
  exact ⟨_, _, _, ys, rfl, hyl, hys, by omega⟩
theorem open_intA {r : Reach} {b0 : Nat} {v : Value} {d : DataW H} {p : List MemPlace} (_hv : Value.okWide Tryd.prog W r b0 3 v) (h : DataW.Trod enc Tryd.prog W 0 (fun _ => true) true 3 v d p) :
    ∃ z : Int, v = .int .i64 z ∧ (Lit.int .i64 z).wf = true := by
  have hi : ∃ z, v = .int .i64 z := by
    have h1 := _hv
    simp only [Value.okWide, Tryd.underlying3, Cell.okWide] at h1
    cases v <;> simp_all [Cell.ok]
  obtain ⟨z, rfl⟩ := hi
  obtain ⟨m, hm⟩ := h
  obtain ⟨z', hz, _, wz⟩ := DataW.trod_int Tryd.underlying3 hm
  have hz' : [Value.int .i64 z] = [.int .i64 z'] := hz
  simp only [List.cons.injEq, and_true, Value.int.injEq, true_and] at hz'
  subst hz'
  exact ⟨z, rfl, wz⟩
