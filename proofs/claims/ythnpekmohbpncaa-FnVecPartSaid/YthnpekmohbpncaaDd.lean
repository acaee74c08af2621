/- The generators of arguments of the vectors' statements: slices of ints in new memory. No condition but on sizes. -/
import Derived.Test.YthnpekmohbpncaaDv
namespace Go.Proofs.Ythnpekmohbpncaa
open Go.RowKit
/-- one slice of few ints in new memory -/
def Gen1 (w : World) (e : Ending) (w' : World) : Prop :=
  ∃ A c, ∃ zs : List Int, e = .returned (.slice A zs.length c) ∧ Ints w' w.heap.size w'.heap.size A c zs ∧ zs.length ≤ 3 ∧ (∀ z, z ∈ zs → -1 ≤ z ∧ z ≤ 100) ∧ Below w.heap.size w w'
/-- two of them -/
def Gen2 (w : World) (e : Ending) (w' : World) : Prop :=
  ∃ A c, ∃ zs : List Int, ∃ B d, ∃ ys : List Int, e = .returned (.tuple #[.slice A zs.length c, .slice B ys.length d]) ∧
    Ints w' w.heap.size w'.heap.size A c zs ∧ zs.length ≤ 3 ∧ (∀ z, z ∈ zs → -1 ≤ z ∧ z ≤ 100) ∧ Ints w' w.heap.size w'.heap.size B d ys ∧ ys.length ≤ 3 ∧ (∀ z, z ∈ ys → -1 ≤ z ∧ z ≤ 100) ∧ Below w.heap.size w w'
theorem DrawVecValid_any (A : Option Addr) (n c : Nat) (w : World) (hA : BytesR w w.heap.size A n) (hc : n ≤ c) (hm : c ≤ maxLen) :
    Calls Try.prog 19 #[.slice A n c] w (Gen1 w) := by
  have HA := Lib.hid hA; clear hA
  go_enter Try.func19, Try.ntmps19
  go_wp2_with fail
  refine (l6Open_any A n c w HA.out hc hm).mono ?_; rintro e w1 ⟨g, rfl, hg, hR, hb⟩
  have HR := Lib.hid hR; clear hR
  have HB := Lib.hid hb; clear hb
  go_wp2_with fail
  refine (l91Vec_any g 0 20 w1 HR.out (by omega) (by omega)).mono ?_; rintro e w2 ⟨A', c', zs, p', rfl, hI, hl, hz, hR2, _, _, hO⟩
  have HI := Lib.hid hI; clear hI
  have HZ := Lib.hid hz; clear hz
  have HO := Lib.hid hO; clear hO
  clear hR2
  go_wp2_with fail
  go_ret
  exact ⟨A', c', zs, by simp, HI.out.mono HB.out.size (Nat.le_refl _), hl, HZ.out, HB.out.trans (HO.out.below hg HB.out.size)⟩
theorem DrawVecFits_any (A : Option Addr) (n c : Nat) (w : World) (hA : BytesR w w.heap.size A n) (hc : n ≤ c) (hm : c ≤ maxLen) :
    Calls Try.prog 24 #[.slice A n c] w (Gen2 w) := by
  have HA := Lib.hid hA; clear hA
  go_enter Try.func24, Try.ntmps24
  go_wp2_with fail
  refine (l6Open_any A n c w HA.out hc hm).mono ?_; rintro e w1 ⟨g, rfl, hg, hR, hb⟩
  have HG := Lib.hid hR.lt
  have HR := Lib.hid hR; clear hR
  have HB := Lib.hid hb; clear hb
  go_wp2_with fail
  refine (l91Vec_any g 0 9 w1 HR.out (by omega) (by omega)).mono ?_; rintro e w2 ⟨A1, c1, zs, p1, rfl, hI, hl, hz, hR2, hp0, hp1, hO⟩
  have HI := Lib.hid hI; clear hI
  have HZ := Lib.hid hz; clear hz
  have HO := Lib.hid hO; clear hO
  have HR2 := Lib.hid hR2; clear hR2
  go_wp2_with fail
  refine (l91Vec_any g p1 20 w2 HR2.out (by omega) (by omega)).mono ?_; rintro e w3 ⟨A2, c2, ys, p2, rfl, hI2, hl2, hz2, hR3, hp2, hp3, hO2⟩
  have HI2 := Lib.hid hI2; clear hI2
  have HZ2 := Lib.hid hz2; clear hz2
  have HO2 := Lib.hid hO2; clear hO2
  clear hR3
  go_wp2_with fail
  go_ret2
  have hs1 := HB.out.size
  have hs2 := HO.out.size
  have hs3 := HO2.out.size
  have hg1 := HG.out
  exact ⟨A1, c1, zs, A2, c2, ys, by simp, (HI.out.only HO2.out (.inr hg1) (Nat.le_refl _)).mono hs1 hs3, hl, HZ.out, HI2.out.mono (by omega) (Nat.le_refl _), hl2, HZ2.out,
    HB.out.trans ((HO.out.below hg hs1).trans (HO2.out.below hg (by omega)))⟩
theorem DrawVecAdd_any (A : Option Addr) (n c : Nat) (w : World) (hA : BytesR w w.heap.size A n) (hc : n ≤ c) (hm : c ≤ maxLen) :
    Calls Try.prog 47 #[.slice A n c] w (Gen2 w) := by
  have HA := Lib.hid hA; clear hA
  go_enter Try.func47, Try.ntmps47
  go_wp2_with fail
  refine (l6Open_any A n c w HA.out hc hm).mono ?_; rintro e w1 ⟨g, rfl, hg, hR, hb⟩
  have HG := Lib.hid hR.lt
  have HR := Lib.hid hR; clear hR
  have HB := Lib.hid hb; clear hb
  go_wp2_with fail
  refine (l91Vec_any g 0 11 w1 HR.out (by omega) (by omega)).mono ?_; rintro e w2 ⟨A1, c1, zs, p1, rfl, hI, hl, hz, hR2, hp0, hp1, hO⟩
  have HI := Lib.hid hI; clear hI
  have HZ := Lib.hid hz; clear hz
  have HO := Lib.hid hO; clear hO
  have HR2 := Lib.hid hR2; clear hR2
  go_wp2_with fail
  refine (l91Vec_any g p1 11 w2 HR2.out (by omega) (by omega)).mono ?_; rintro e w3 ⟨A2, c2, ys, p2, rfl, hI2, hl2, hz2, hR3, hp2, hp3, hO2⟩
  have HI2 := Lib.hid hI2; clear hI2
  have HZ2 := Lib.hid hz2; clear hz2
  have HO2 := Lib.hid hO2; clear hO2
  clear hR3
  go_wp2_with fail
  go_ret2
  have hs1 := HB.out.size
  have hs2 := HO.out.size
  have hs3 := HO2.out.size
  have hg1 := HG.out
  exact ⟨A1, c1, zs, A2, c2, ys, by simp, (HI.out.only HO2.out (.inr hg1) (Nat.le_refl _)).mono hs1 hs3, hl, HZ.out, HI2.out.mono (by omega) (Nat.le_refl _), hl2, HZ2.out,
    HB.out.trans ((HO.out.below hg hs1).trans (HO2.out.below hg (by omega)))⟩
theorem DrawVecMax_any (A : Option Addr) (n c : Nat) (w : World) (hA : BytesR w w.heap.size A n) (hc : n ≤ c) (hm : c ≤ maxLen) :
    Calls Try.prog 35 #[.slice A n c] w (Gen2 w) := by
  have HA := Lib.hid hA; clear hA
  go_enter Try.func35, Try.ntmps35
  go_wp2_with fail
  refine (DrawVecAdd_any A n c w HA.out hc hm).mono ?_; rintro e w1 ⟨A1, c1, zs, A2, c2, ys, rfl, h1, h2, h3, h4, h5, h6, h7⟩
  have H1 := Lib.hid h1; clear h1
  have H3 := Lib.hid h3; clear h3
  have H4 := Lib.hid h4; clear h4
  have H6 := Lib.hid h6; clear h6
  have H7 := Lib.hid h7; clear h7
  go_wp2_with fail
  go_ret2
  exact ⟨A1, c1, zs, A2, c2, ys, by simp, H1.out, h2, H3.out, H4.out, h5, H6.out, H7.out⟩
theorem DrawVecDot_any (A : Option Addr) (n c : Nat) (w : World) (hA : BytesR w w.heap.size A n) (hc : n ≤ c) (hm : c ≤ maxLen) :
    Calls Try.prog 29 #[.slice A n c] w (Gen2 w) := by
  have HA := Lib.hid hA; clear hA
  go_enter Try.func29, Try.ntmps29
  go_wp2_with fail
  refine (DrawVecAdd_any A n c w HA.out hc hm).mono ?_; rintro e w1 ⟨A1, c1, zs, A2, c2, ys, rfl, h1, h2, h3, h4, h5, h6, h7⟩
  have H1 := Lib.hid h1; clear h1
  have H3 := Lib.hid h3; clear h3
  have H4 := Lib.hid h4; clear h4
  have H6 := Lib.hid h6; clear h6
  have H7 := Lib.hid h7; clear h7
  go_wp2_with fail
  go_ret2
  exact ⟨A1, c1, zs, A2, c2, ys, by simp, H1.out, h2, H3.out, H4.out, h5, H6.out, H7.out⟩
end Go.Proofs.Ythnpekmohbpncaa
