/- The generators of arguments of the vectors' statements: slices of ints in new memory. No condition but on sizes. -/
import Derived.Test.YtpjipofkpikipaaDv
namespace Go.Proofs.Ytpjipofkpikipaa
open Go.RowKit
/-- one slice of few ints in new memory -/
def Gen1 (w : World) (e : Ending) (w' : World) : Prop :=
  ∃ A c, ∃ zs : List Int, e = .returned (.slice A zs.length c) ∧ Ints w' w.heap.size w'.heap.size A c zs ∧ zs.length ≤ 3 ∧ (∀ z, z ∈ zs → -1 ≤ z ∧ z ≤ 100) ∧ Below w.heap.size w w'
/-- two of them -/
def Gen2 (w : World) (e : Ending) (w' : World) : Prop :=
  ∃ A c, ∃ zs : List Int, ∃ B d, ∃ ys : List Int, e = .returned (.tuple #[.slice A zs.length c, .slice B ys.length d]) ∧
    Ints w' w.heap.size w'.heap.size A c zs ∧ zs.length ≤ 3 ∧ (∀ z, z ∈ zs → -1 ≤ z ∧ z ≤ 100) ∧ Ints w' w.heap.size w'.heap.size B d ys ∧ ys.length ≤ 3 ∧ (∀ z, z ∈ ys → -1 ≤ z ∧ z ≤ 100) ∧ Below w.heap.size w w'
