/- The generators of arguments of the vectors' statements: slices of ints in new memory. No condition but on sizes. -/
import Derived.Test.YtojbljaleconpaaDoorDv
namespace Go.Proofs.YtojbljaleconpaaDoor
open Go.RowKit
/-- one slice of few ints in new memory -/
def Gen1 (w : World) (e : Ending) (w' : World) : Prop :=
  ∃ A c, ∃ zs : List Int, e = .returned (.slice A zs.length c) ∧ Ints w' w.heap.size w'.heap.size A c zs ∧ zs.length ≤ 3 ∧ (∀ z, z ∈ zs → -1 ≤ z ∧ z ≤ 100) ∧ Below w.heap.size w w'
/-- two of them -/
def Gen2 (w : World) (e : Ending) (w' : World) : Prop :=
  ∃ A c, ∃ zs : List Int, ∃ B d, ∃ ys : List Int, e = .returned (.tuple #[.slice A zs.length c, .slice B ys.length d]) ∧
    Ints w' w.heap.size w'.heap.size A c zs ∧ zs.length ≤ 3 ∧ (∀ z, z ∈ zs → -1 ≤ z ∧ z ≤ 100) ∧ Ints w' w.heap.size w'.heap.size B d ys ∧ ys.length ≤ 3 ∧ (∀ z, z ∈ ys → -1 ≤ z ∧ z ≤ 100) ∧ Below w.heap.size w w'
theorem DrawVecText_any (A : Option Addr) (n c : Nat) (w : World) (hA : BytesR w w.heap.size A n) (hc : n ≤ c) (hm : c ≤ maxLen) :
    Calls Tryd.prog 9 #[.slice A n c] w (Gen1 w) := by
  have HA := Lib.hid hA; clear hA
  go_enter Tryd.func9, Tryd.ntmps9
  go_wp2_with fail
  refine (l6Open_any A n c w HA.out hc hm).mono ?_; rintro e w1 ⟨g, rfl, hg, hR, hb⟩
  have HR := Lib.hid hR; clear hR
  have HB := Lib.hid hb; clear hb
  go_wp2_with fail
  refine (l91Vec_any g 0 20 w1 HR.out (by omega) (by omega)).mono ?_; rintro e w2 ⟨A', c', zs, p', rfl, hI, hl, hz, hR2, _, _, hO⟩
  have HI := Lib.hid hI; clear hI
  have HZ := Lib.hid hz; clear hz
  have HO := Lib.hid hO; clear hO
  clear hR2
  go_wp2_with fail
  go_ret
  exact ⟨A', c', zs, by simp, HI.out.mono HB.out.size (Nat.le_refl _), hl, HZ.out, HB.out.trans (HO.out.below hg HB.out.size)⟩
