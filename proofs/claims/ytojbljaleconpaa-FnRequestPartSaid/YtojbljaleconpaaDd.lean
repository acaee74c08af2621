/- The generators of arguments of the vectors' statements: slices of ints in new memory. No condition but on sizes. -/
import Derived.Test.YtojbljaleconpaaDv
namespace Go.Proofs.Ytojbljaleconpaa
open Go.RowKit
/-- one slice of few ints in new memory -/
def Gen1 (w : World) (e : Ending) (w' : World) : Prop :=
  ∃ A c, ∃ zs : List Int, e = .returned (.slice A zs.length c) ∧ Ints w' w.heap.size w'.heap.size A c zs ∧ zs.length ≤ 3 ∧ (∀ z, z ∈ zs → -1 ≤ z ∧ z ≤ 100) ∧ Below w.heap.size w w'
/-- two of them -/
def Gen2 (w : World) (e : Ending) (w' : World) : Prop :=
  ∃ A c, ∃ zs : List Int, ∃ B d, ∃ ys : List Int, e = .returned (.tuple #[.slice A zs.length c, .slice B ys.length d]) ∧
    Ints w' w.heap.size w'.heap.size A c zs ∧ zs.length ≤ 3 ∧ (∀ z, z ∈ zs → -1 ≤ z ∧ z ≤ 100) ∧ Ints w' w.heap.size w'.heap.size B d ys ∧ ys.length ≤ 3 ∧ (∀ z, z ∈ ys → -1 ≤ z ∧ z ≤ 100) ∧ Below w.heap.size w w'
theorem DrawVecAdd_any (A : Option Addr) (n c : Nat) (w : World) (hA : BytesR w w.heap.size A n) (hc : n ≤ c) (hm : c ≤ maxLen) :
    Calls Try.prog 13 #[.slice A n c] w (Gen2 w) := by
  have HA := Lib.hid hA; clear hA
  go_enter Try.func13, Try.ntmps13
  go_wp2_with fail
  refine (l6Open_any A n c w HA.out hc hm).mono ?_; rintro e w1 ⟨g, rfl, hg, hR, hb⟩
  have HG := Lib.hid hR.lt
  have HR := Lib.hid hR; clear hR
  have HB := Lib.hid hb; clear hb
  go_wp2_with fail
  refine (l91Vec_any g 0 11 w1 HR.out (by omega) (by omega)).mono ?_; rintro e w2 ⟨A1, c1, zs, p1, rfl, hI, hl, hz, hR2, hp0, hp1, hO⟩
  have HI := Lib.hid hI; clear hI
  have HZ := Lib.hid hz; clear hz
  have HO := Lib.hid hO; clear hO
  have HR2 := Lib.hid hR2; clear hR2
  go_wp2_with fail
  refine (l91Vec_any g p1 11 w2 HR2.out (by omega) (by omega)).mono ?_; rintro e w3 ⟨A2, c2, ys, p2, rfl, hI2, hl2, hz2, hR3, hp2, hp3, hO2⟩
  have HI2 := Lib.hid hI2; clear hI2
  have HZ2 := Lib.hid hz2; clear hz2
  have HO2 := Lib.hid hO2; clear hO2
  clear hR3
  go_wp2_with fail
  go_ret2
  have hs1 := HB.out.size
  have hs2 := HO.out.size
  have hs3 := HO2.out.size
  have hg1 := HG.out
  exact ⟨A1, c1, zs, A2, c2, ys, by simp, (HI.out.only HO2.out (.inr hg1) (Nat.le_refl _)).mono hs1 hs3, hl, HZ.out, HI2.out.mono (by omega) (Nat.le_refl _), hl2, HZ2.out,
    HB.out.trans ((HO.out.below hg hs1).trans (HO2.out.below hg (by omega)))⟩
theorem DrawVecSub_any (A : Option Addr) (n c : Nat) (w : World) (hA : BytesR w w.heap.size A n) (hc : n ≤ c) (hm : c ≤ maxLen) :
    Calls Try.prog 19 #[.slice A n c] w (Gen2 w) := by
  have HA := Lib.hid hA; clear hA
  go_enter Try.func19, Try.ntmps19
  go_wp2_with fail
  refine (l6Open_any A n c w HA.out hc hm).mono ?_; rintro e w1 ⟨g, rfl, hg, hR, hb⟩
  have HG := Lib.hid hR.lt
  have HR := Lib.hid hR; clear hR
  have HB := Lib.hid hb; clear hb
  go_wp2_with fail
  refine (l91Vec_any g 0 20 w1 HR.out (by omega) (by omega)).mono ?_; rintro e w2 ⟨A1, c1, zs, p1, rfl, hI, hl, hz, hR2, hp0, hp1, hO⟩
  have HI := Lib.hid hI; clear hI
  have HZ := Lib.hid hz; clear hz
  have HO := Lib.hid hO; clear hO
  have HR2 := Lib.hid hR2; clear hR2
  go_wp2_with fail
  refine (l91Vec_any g p1 7 w2 HR2.out (by omega) (by omega)).mono ?_; rintro e w3 ⟨A2, c2, ys, p2, rfl, hI2, hl2, hz2, hR3, hp2, hp3, hO2⟩
  have HI2 := Lib.hid hI2; clear hI2
  have HZ2 := Lib.hid hz2; clear hz2
  have HO2 := Lib.hid hO2; clear hO2
  clear hR3
  go_wp2_with fail
  go_ret2
  have hs1 := HB.out.size
  have hs2 := HO.out.size
  have hs3 := HO2.out.size
  have hg1 := HG.out
  exact ⟨A1, c1, zs, A2, c2, ys, by simp, (HI.out.only HO2.out (.inr hg1) (Nat.le_refl _)).mono hs1 hs3, hl, HZ.out, HI2.out.mono (by omega) (Nat.le_refl _), hl2, HZ2.out,
    HB.out.trans ((HO.out.below hg hs1).trans (HO2.out.below hg (by omega)))⟩
