/- Arguments that are structs or slices of structs, opened. No condition. -/
import Derived.Test.YtojbljaleconpaaMem
import Derived.Test.YtojbljaleconpaaProg
import Derived.WalkKit
import Derived.ProofKit
import Derived.OpenShut
import Derived.Lib.SmallJoins
import Derived.Deep.SlicePairs
namespace Go.Proofs.Ytojbljaleconpaa
open Go.ChangeShapes Go.WideShapes Go.ChangeAt Go.RowKit Go.Joins
section
variable {H : Type} {enc : TypeId × Value → H} {P : Program} {W : World}
theorem row_of_cells {t e : TypeId} {fuel : Nat} {cs : List Value} {x : DataW H × List MemPlace} (ht : P.underlying t = some (.slice e)) (he : P.underlying e = some (.int .i64)) (hc : P.cellsOf e = 1)
    (h : DataW.trod enc P W 0 (fun _ => true) true fuel t cs = some x) : ∃ A n c zs, cs = [.slice A n c] ∧ IsRow .i64 W A n c zs := by
  rcases open_ints ht he hc h with ⟨hcs, _⟩ | ⟨x, l, c, zs, hcs, _, hl, hm, hz, _, hcell, hwz⟩
  · exact ⟨_, _, _, [], hcs, .inl ⟨rfl, rfl, rfl, rfl⟩⟩
  · exact ⟨_, _, _, zs, hcs, .inr ⟨_, rfl, hl, hm, by simpa using hz, hcell, hwz⟩⟩
theorem row_len {A : Option Addr} {n c : Nat} {zs : List Int} (h : IsRow .i64 W A n c zs) : n ≤ maxLen := by
  rcases h with ⟨rfl, rfl, rfl, rfl⟩ | ⟨x, rfl, h1, h2, h3, h4, h5⟩
  · exact Nat.zero_le _
  · omega

theorem open_task {r : Reach} {b0 : Nat} {v : Value} {d : DataW H} {p : List MemPlace} (hv : Value.okWide Try.prog W r b0 49 v) (h : DataW.Trod enc Try.prog W 0 (fun _ => true) true 49 v d p) :
    ∃ (i : Int) (A : Option Addr) (n c : Nat) (zs : List Int), v = .agg #[.int .i64 i, .slice A n c] ∧ IsRow .i64 W A n c zs ∧ (Lit.int .i64 i).wf = true := by
  obtain ⟨v0, v1, y0, y1, m, rfl, _, _, hy0, hy1⟩ := open_agg2 Try.underlying49 (by kernel_rfl) (by kernel_rfl) hv h
  obtain ⟨i, e0, _, wi⟩ := DataW.trod_int Try.underlying3 hy0
  obtain ⟨A, n, c, zs, e1, hr⟩ := row_of_cells Try.underlying23 Try.underlying3 (by kernel_rfl) hy1
  simp at e0 e1
  subst e0 e1
  exact ⟨i, A, n, c, zs, rfl, hr, wi⟩
end
end Go.Proofs.Ytojbljaleconpaa
