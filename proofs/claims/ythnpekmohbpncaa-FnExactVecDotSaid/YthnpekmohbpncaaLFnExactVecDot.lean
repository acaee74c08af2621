/- The walk of one statement: by the contracts of what it calls it returns true and changes nothing that was there. No condition. -/
import Derived.Test.YthnpekmohbpncaaVm
namespace Go.Proofs.Ythnpekmohbpncaa
open Go.RowKit
theorem FnExactVecDot_walk (A : Option Addr) (c : Nat) (ya : List Int) (B : Option Addr) (d : Nat) (yb : List Int) (w : World) (hA : IntsR w w.heap.size A ya) (hB : IntsR w w.heap.size B yb) :
    Calls Try.prog 6 #[.slice A ya.length c, .slice B yb.length d] w fun e w' => e = .returned (.bool true) ∧ Below w.heap.size w w' := by
  have HA := Lib.hid hA; clear hA
  have HC := Lib.hid hB; clear hB
  by_cases ha : 1048576 < ya.length
  · go_enter Try.func6, Try.ntmps6
    go_wp2
    go_ret
    exact ⟨by simp, Below.refl _ _⟩
  by_cases hb : 1048576 < yb.length
  · go_enter Try.func6, Try.ntmps6
    go_wp2
    go_ret
    exact ⟨by simp, Below.refl _ _⟩
  have ha' : ya.length ≤ 1048576 := by omega
  have hb' : yb.length ≤ 1048576 := by omega
  clear ha hb
  go_enter Try.func6, Try.ntmps6
  have HB := Lib.hid (Below.refl w.heap.size w)
  go_wp2_with fail
  refine (toIntS_any A c _ ya _ (HA.out.below HB.out (Nat.le_refl _)) ha' HB.out.size).mono ?_; rintro e w1 ⟨A1, c1, rfl, hI, hb⟩
  have HS := Lib.hid (hb)
  replace HB := Lib.hid (Below.step HB.out HS.out)
  clear HS
  have HT := Lib.hid (hI.mono (Nat.zero_le _) (Nat.le_refl _))
  clear hI hb
  go_wp2_with fail
  refine (toIntS_any B d _ yb _ (HC.out.below HB.out (Nat.le_refl _)) hb' HB.out.size).mono ?_; rintro e w2 ⟨A2, c2, rfl, hI, hb⟩
  have HS := Lib.hid (hb)
  replace HT := Lib.hid (HT.out.step HS.out)
  replace HB := Lib.hid (Below.step HB.out HS.out)
  clear HS
  have HU := Lib.hid (hI.mono (Nat.zero_le _) (Nat.le_refl _))
  clear hI hb
  go_wp2_with fail
  refine (vecDotS_any _ _ _ _ _ _ _ _ ya yb _ HT.out HU.out ha' hb').mono ?_; rintro e w3 ⟨rfl, hd⟩
  have HS := Lib.hid (drawn_below hd)
  replace HT := Lib.hid (HT.out.step HS.out)
  replace HU := Lib.hid (HU.out.step HS.out)
  replace HB := Lib.hid (Below.step HB.out HS.out)
  clear HS
  clear hd
  go_wp2_with fail
  refine (toIntS_any A c _ ya _ (HA.out.below HB.out (Nat.le_refl _)) ha' HB.out.size).mono ?_; rintro e w4 ⟨A4, c4, rfl, hI, hb⟩
  have HS := Lib.hid (hb)
  replace HT := Lib.hid (HT.out.step HS.out)
  replace HU := Lib.hid (HU.out.step HS.out)
  replace HB := Lib.hid (Below.step HB.out HS.out)
  clear HS
  have HX := Lib.hid (hI.mono (Nat.zero_le _) (Nat.le_refl _))
  clear hI hb
  go_wp2_with fail
  refine (toIntS_any B d _ yb _ (HC.out.below HB.out (Nat.le_refl _)) hb' HB.out.size).mono ?_; rintro e w5 ⟨A5, c5, rfl, hI, hb⟩
  have HS := Lib.hid (hb)
  replace HT := Lib.hid (HT.out.step HS.out)
  replace HU := Lib.hid (HU.out.step HS.out)
  replace HX := Lib.hid (HX.out.step HS.out)
  replace HB := Lib.hid (Below.step HB.out HS.out)
  clear HS
  have HY := Lib.hid (hI.mono (Nat.zero_le _) (Nat.le_refl _))
  clear hI hb
  go_wp2_with fail
  refine (vecDot_any _ _ _ _ _ _ _ _ ya yb _ HX.out HY.out ha' hb').mono ?_; rintro e w' ⟨rfl, rfl⟩
  go_wp2_with fail
  refine (toIntS_any A c _ ya _ (HA.out.below HB.out (Nat.le_refl _)) ha' HB.out.size).mono ?_; rintro e w6 ⟨A6, c6, rfl, hI, hb⟩
  have HS := Lib.hid (hb)
  replace HT := Lib.hid (HT.out.step HS.out)
  replace HU := Lib.hid (HU.out.step HS.out)
  replace HX := Lib.hid (HX.out.step HS.out)
  replace HY := Lib.hid (HY.out.step HS.out)
  replace HB := Lib.hid (Below.step HB.out HS.out)
  clear HS
  have HV := Lib.hid (hI.mono (Nat.zero_le _) (Nat.le_refl _))
  clear hI hb
  go_wp2_with fail
  refine (eqIntS_eq _ _ _ _ _ _ _ _ ya _ HX.out HV.out (by omega)).mono ?_; rintro e w7 ⟨rfl, hd⟩
  have HS := Lib.hid (drawn_below hd)
  replace HT := Lib.hid (HT.out.step HS.out)
  replace HU := Lib.hid (HU.out.step HS.out)
  replace HX := Lib.hid (HX.out.step HS.out)
  replace HY := Lib.hid (HY.out.step HS.out)
  replace HV := Lib.hid (HV.out.step HS.out)
  replace HB := Lib.hid (Below.step HB.out HS.out)
  clear HS
  clear hd
  go_wp2_with fail
  refine (toIntS_any B d _ yb _ (HC.out.below HB.out (Nat.le_refl _)) hb' HB.out.size).mono ?_; rintro e w8 ⟨A8, c8, rfl, hI, hb⟩
  have HS := Lib.hid (hb)
  replace HT := Lib.hid (HT.out.step HS.out)
  replace HU := Lib.hid (HU.out.step HS.out)
  replace HX := Lib.hid (HX.out.step HS.out)
  replace HY := Lib.hid (HY.out.step HS.out)
  replace HV := Lib.hid (HV.out.step HS.out)
  replace HB := Lib.hid (Below.step HB.out HS.out)
  clear HS
  have HW := Lib.hid (hI.mono (Nat.zero_le _) (Nat.le_refl _))
  clear hI hb
  go_wp2_with fail
  refine (eqIntS_eq _ _ _ _ _ _ _ _ yb _ HY.out HW.out (by omega)).mono ?_; rintro e w9 ⟨rfl, hd⟩
  have HS := Lib.hid (drawn_below hd)
  replace HT := Lib.hid (HT.out.step HS.out)
  replace HU := Lib.hid (HU.out.step HS.out)
  replace HX := Lib.hid (HX.out.step HS.out)
  replace HY := Lib.hid (HY.out.step HS.out)
  replace HV := Lib.hid (HV.out.step HS.out)
  replace HW := Lib.hid (HW.out.step HS.out)
  replace HB := Lib.hid (Below.step HB.out HS.out)
  clear HS
  clear hd
  go_wp2_with fail
  go_ret
  exact ⟨by simp, HB.out⟩
end Go.Proofs.Ythnpekmohbpncaa
