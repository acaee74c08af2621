/- The generator of a room and a list of tasks. No condition but on sizes. -/
import Derived.Test.YtcmampicgdobcaaDy
namespace Go.Proofs.Ytcmampicgdobcaa
open Go.RowKit
/-- small numbers: three of them -/
def GoodN (n : List Int) : Prop := n.length = 3 ∧ ∀ z, z ∈ n → 0 ≤ z ∧ z ≤ 100
def GoodT (t : TaskV) : Prop := GoodN t.need ∧ 0 ≤ t.id ∧ t.id ≤ 100
theorem GoodT.wf {t : TaskV} (h : GoodT t) : (Lit.int .i64 t.id).wf = true := by
  have := h.2
  simp [Lit.wf, IntKind.min, IntKind.max, IntKind.signed, IntKind.bits]
  omega
theorem GoodN.of_vec {n : List Int} (h : vecB n = true) : GoodN n :=
  ⟨vec_len h, fun z hz => by obtain ⟨k, hk⟩ := List.getElem?_of_mem hz; have := vec_at h hk; omega⟩
theorem DTk.good {ti : TypeId} {w : World} {lo : Nat} {t : TaskV} (h : DTk ti w lo t) : GoodT t := ⟨⟨h.len, h.bd.1⟩, h.bd.2⟩
/-- a room and tasks in new memory -/
def GenRL (w : World) (e : Ending) (w' : World) : Prop :=
  ∃ A c, ∃ room : List Int, ∃ B d, ∃ ts : List TaskV, e = .returned (.tuple #[.slice A room.length c, .slice B ts.length d]) ∧
    Ints w' w.heap.size w'.heap.size A c room ∧ GoodN room ∧ Tasks w' w.heap.size w'.heap.size B d ts ∧ (∀ t, t ∈ ts → GoodT t) ∧ ts.length ≤ 16 ∧ Below w.heap.size w w'
