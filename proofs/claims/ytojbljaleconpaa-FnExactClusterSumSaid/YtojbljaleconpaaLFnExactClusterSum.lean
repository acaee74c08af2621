/- The walk of one statement: by the contracts of what it calls it returns true and changes nothing that was there. No condition. -/
import Derived.Test.YtojbljaleconpaaLw
import Derived.Test.YtojbljaleconpaaCs
namespace Go.Proofs.Ytojbljaleconpaa
open Go.RowKit
theorem FnExactClusterSum_walk (A : Option Addr) (c : Nat) (ya : List Int) (w : World) (hA : IntsR w w.heap.size A ya) :
    Calls Try.prog 7 #[.slice A ya.length c] w fun e w' => e = .returned (.bool true) ∧ Below w.heap.size w w' := by
  have HA := Lib.hid hA; clear hA
  by_cases ha : 1048576 < ya.length
  · go_enter Try.func7, Try.ntmps7
    go_wp2
    go_ret
    exact ⟨by simp, Below.refl _ _⟩
  have ha' : ya.length ≤ 1048576 := by omega
  clear ha
  go_enter Try.func7, Try.ntmps7
  have HB := Lib.hid (Below.refl w.heap.size w)
  go_wp2_with fail
  refine (toIntS_any A c _ ya _ (HA.out.below HB.out (Nat.le_refl _)) ha' HB.out.size).mono ?_; rintro e w1 ⟨A1, c1, rfl, hI, hb⟩
  have HS := Lib.hid (hb)
  replace HB := Lib.hid (Below.step HB.out HS.out)
  clear HS
  have HT := Lib.hid (hI.mono (Nat.zero_le _) (Nat.le_refl _))
  clear hI hb
  go_wp2_with fail
  refine (clusterSumS_any _ _ _ _ ya _ HT.out ha').mono ?_; rintro e w' ⟨rfl, rfl⟩
  go_wp2_with fail
  refine (toIntS_any A c _ ya _ (HA.out.below HB.out (Nat.le_refl _)) ha' HB.out.size).mono ?_; rintro e w2 ⟨A2, c2, rfl, hI, hb⟩
  have HS := Lib.hid (hb)
  replace HT := Lib.hid (HT.out.step HS.out)
  replace HB := Lib.hid (Below.step HB.out HS.out)
  clear HS
  have HX := Lib.hid (hI.mono (Nat.zero_le _) (Nat.le_refl _))
  clear hI hb
  go_wp2_with fail
  refine (clusterSum_any _ _ _ _ ya _ HX.out ha').mono ?_; rintro e w' ⟨rfl, rfl⟩
  go_wp2_with fail
  refine (toIntS_any A c _ ya _ (HA.out.below HB.out (Nat.le_refl _)) ha' HB.out.size).mono ?_; rintro e w3 ⟨A3, c3, rfl, hI, hb⟩
  have HS := Lib.hid (hb)
  replace HT := Lib.hid (HT.out.step HS.out)
  replace HX := Lib.hid (HX.out.step HS.out)
  replace HB := Lib.hid (Below.step HB.out HS.out)
  clear HS
  have HY := Lib.hid (hI.mono (Nat.zero_le _) (Nat.le_refl _))
  clear hI hb
  go_wp2_with fail
  refine (eqIntS_eq _ _ _ _ _ _ _ _ ya _ HX.out HY.out (by omega)).mono ?_; rintro e w4 ⟨rfl, hd⟩
  have HS := Lib.hid (drawn_below hd)
  replace HT := Lib.hid (HT.out.step HS.out)
  replace HX := Lib.hid (HX.out.step HS.out)
  replace HY := Lib.hid (HY.out.step HS.out)
  replace HB := Lib.hid (Below.step HB.out HS.out)
  clear HS
  clear hd
  go_wp2_with fail
  go_ret
  exact ⟨by simp, HB.out⟩
end Go.Proofs.Ytojbljaleconpaa
