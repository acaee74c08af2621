/- The walk of one statement: by the contracts of what it calls it returns true and changes nothing that was there. No condition. -/
import Derived.Test.YthnpekmohbpncaaLw
import Derived.Test.YthnpekmohbpncaaPw
namespace Go.Proofs.Ythnpekmohbpncaa
open Go.RowKit
theorem FnExactVecSub_walk (A : Option Addr) (c : Nat) (ya : List Int) (B : Option Addr) (d : Nat) (yb : List Int) (w : World) (hA : IntsR w w.heap.size A ya) (hB : IntsR w w.heap.size B yb) :
    Calls Try.prog 12 #[.slice A ya.length c, .slice B yb.length d] w fun e w' => e = .returned (.bool true) ∧ Below w.heap.size w w' := by
  have HA := Lib.hid hA; clear hA
  have HC := Lib.hid hB; clear hB
  by_cases ha : 1048576 < ya.length
  · go_enter Try.func12, Try.ntmps12
    go_wp2
    go_ret
    exact ⟨by simp, Below.refl _ _⟩
  by_cases hb : 1048576 < yb.length
  · go_enter Try.func12, Try.ntmps12
    go_wp2
    go_ret
    exact ⟨by simp, Below.refl _ _⟩
  have ha' : ya.length ≤ 1048576 := by omega
  have hb' : yb.length ≤ 1048576 := by omega
  clear ha hb
  have hlr : (vsubR ya yb).1.length ≤ 3 := vsub_len ya yb
  have hkd : decide ((1 : Int) + ya.length + yb.length < 0) = false := by simp; omega
  go_enter Try.func12, Try.ntmps12
  have HB := Lib.hid (Below.refl w.heap.size w)
  go_wp2_with fail
  refine (toIntS_any A c _ ya _ (HA.out.below HB.out (Nat.le_refl _)) ha' HB.out.size).mono ?_; rintro e w1 ⟨A1, c1, rfl, hI, hb⟩
  have HS := Lib.hid (hb)
  replace HB := Lib.hid (Below.step HB.out HS.out)
  have hs1 : w.heap.size ≤ w1.heap.size := HS.out.size
  clear HS
  have HT := Lib.hid hI
  clear hI hb
  go_wp2_with fail
  refine (toIntS_any B d _ yb _ (HC.out.below HB.out (Nat.le_refl _)) hb' HB.out.size).mono ?_; rintro e w2 ⟨A2, c2, rfl, hI, hb⟩
  have HS := Lib.hid (hb)
  replace HT := Lib.hid (HT.out.below HS.out (by omega))
  replace HB := Lib.hid (Below.step HB.out HS.out)
  have hs2 : w1.heap.size ≤ w2.heap.size := HS.out.size
  clear HS
  have HU := Lib.hid hI
  clear hI hb
  go_wp2_with fail
  refine (vecSubS_any _ _ _ _ _ _ _ _ ya yb _ HT.out HU.out ha' hb' (by omega) (by omega)).mono ?_; rintro e w3 ⟨A3, c3, rfl, hI, hb⟩
  have HS := Lib.hid (hb)
  replace HT := Lib.hid (HT.out.below HS.out (by omega))
  replace HU := Lib.hid (HU.out.below HS.out (by omega))
  replace HB := Lib.hid (Below.step HB.out HS.out)
  have hs3 : w2.heap.size ≤ w3.heap.size := HS.out.size
  clear HS
  have HW0 := Lib.hid hI
  clear hI hb
  generalize hr : vsubR ya yb = r at *
  have HR := Lib.hid hr; clear hr
  go_wp2_with fail
  refine (toIntS_any A c _ ya _ (HA.out.below HB.out (Nat.le_refl _)) ha' HB.out.size).mono ?_; rintro e w4 ⟨A4, c4, rfl, hI, hb⟩
  have HS := Lib.hid (hb)
  replace HT := Lib.hid (HT.out.below HS.out (by omega))
  replace HU := Lib.hid (HU.out.below HS.out (by omega))
  replace HW0 := Lib.hid (HW0.out.below HS.out (by omega))
  replace HB := Lib.hid (Below.step HB.out HS.out)
  have hs4 : w3.heap.size ≤ w4.heap.size := HS.out.size
  clear HS
  have HX := Lib.hid hI
  clear hI hb
  go_wp2_with fail
  refine (toIntS_any B d _ yb _ (HC.out.below HB.out (Nat.le_refl _)) hb' HB.out.size).mono ?_; rintro e w5 ⟨A5, c5, rfl, hI, hb⟩
  have HS := Lib.hid (hb)
  replace HT := Lib.hid (HT.out.below HS.out (by omega))
  replace HU := Lib.hid (HU.out.below HS.out (by omega))
  replace HW0 := Lib.hid (HW0.out.below HS.out (by omega))
  replace HX := Lib.hid (HX.out.below HS.out (by omega))
  replace HB := Lib.hid (Below.step HB.out HS.out)
  have hs5 : w4.heap.size ≤ w5.heap.size := HS.out.size
  clear HS
  have HY := Lib.hid hI
  clear hI hb
  go_wp2_with fail
  refine (vecSub_any _ _ _ _ _ _ _ _ ya yb _ HX.out HY.out ha' hb' (by omega) (by omega)).mono ?_; rintro e w6 ⟨A6, c6, rfl, hI, hb⟩
  have HS := Lib.hid (hb)
  replace HT := Lib.hid (HT.out.below HS.out (by omega))
  replace HU := Lib.hid (HU.out.below HS.out (by omega))
  replace HW0 := Lib.hid (HW0.out.below HS.out (by omega))
  replace HX := Lib.hid (HX.out.below HS.out (by omega))
  replace HY := Lib.hid (HY.out.below HS.out (by omega))
  replace HB := Lib.hid (Below.step HB.out HS.out)
  have hs6 : w5.heap.size ≤ w6.heap.size := HS.out.size
  clear HS
  have HG := Lib.hid hI
  clear hI hb
  rw [HR.out] at HG ⊢
  go_wp2_with fail
  refine (eqIntS_eq _ _ _ _ _ _ _ _ r.1 _ HG.out HW0.out (by omega)).mono ?_; rintro e w7 ⟨rfl, hd⟩
  have HS := Lib.hid (drawn_below hd)
  replace HT := Lib.hid (HT.out.below HS.out (by omega))
  replace HU := Lib.hid (HU.out.below HS.out (by omega))
  replace HW0 := Lib.hid (HW0.out.below HS.out (by omega))
  replace HX := Lib.hid (HX.out.below HS.out (by omega))
  replace HY := Lib.hid (HY.out.below HS.out (by omega))
  replace HG := Lib.hid (HG.out.below HS.out (by omega))
  replace HB := Lib.hid (Below.step HB.out HS.out)
  have hs7 : w6.heap.size ≤ w7.heap.size := HS.out.size
  clear HS
  clear hd
  go_wp2_with fail
  refine (toIntS_any A c _ ya _ (HA.out.below HB.out (Nat.le_refl _)) ha' HB.out.size).mono ?_; rintro e w8 ⟨A8, c8, rfl, hI, hb⟩
  have HS := Lib.hid (hb)
  replace HT := Lib.hid (HT.out.below HS.out (by omega))
  replace HU := Lib.hid (HU.out.below HS.out (by omega))
  replace HW0 := Lib.hid (HW0.out.below HS.out (by omega))
  replace HX := Lib.hid (HX.out.below HS.out (by omega))
  replace HY := Lib.hid (HY.out.below HS.out (by omega))
  replace HG := Lib.hid (HG.out.below HS.out (by omega))
  replace HB := Lib.hid (Below.step HB.out HS.out)
  have hs8 : w7.heap.size ≤ w8.heap.size := HS.out.size
  clear HS
  have HV := Lib.hid hI
  clear hI hb
  go_wp2_with fail
  refine (eqIntS_eq _ _ _ _ _ _ _ _ ya _ HX.out HV.out (by omega)).mono ?_; rintro e w9 ⟨rfl, hd⟩
  have HS := Lib.hid (drawn_below hd)
  replace HT := Lib.hid (HT.out.below HS.out (by omega))
  replace HU := Lib.hid (HU.out.below HS.out (by omega))
  replace HW0 := Lib.hid (HW0.out.below HS.out (by omega))
  replace HX := Lib.hid (HX.out.below HS.out (by omega))
  replace HY := Lib.hid (HY.out.below HS.out (by omega))
  replace HG := Lib.hid (HG.out.below HS.out (by omega))
  replace HV := Lib.hid (HV.out.below HS.out (by omega))
  replace HB := Lib.hid (Below.step HB.out HS.out)
  have hs9 : w8.heap.size ≤ w9.heap.size := HS.out.size
  clear HS
  clear hd
  go_wp2_with fail
  refine (toIntS_any B d _ yb _ (HC.out.below HB.out (Nat.le_refl _)) hb' HB.out.size).mono ?_; rintro e w10 ⟨A10, c10, rfl, hI, hb⟩
  have HS := Lib.hid (hb)
  replace HT := Lib.hid (HT.out.below HS.out (by omega))
  replace HU := Lib.hid (HU.out.below HS.out (by omega))
  replace HW0 := Lib.hid (HW0.out.below HS.out (by omega))
  replace HX := Lib.hid (HX.out.below HS.out (by omega))
  replace HY := Lib.hid (HY.out.below HS.out (by omega))
  replace HG := Lib.hid (HG.out.below HS.out (by omega))
  replace HV := Lib.hid (HV.out.below HS.out (by omega))
  replace HB := Lib.hid (Below.step HB.out HS.out)
  have hs10 : w9.heap.size ≤ w10.heap.size := HS.out.size
  clear HS
  have HZ := Lib.hid hI
  clear hI hb
  go_wp2_with fail
  refine (eqIntS_eq _ _ _ _ _ _ _ _ yb _ HY.out HZ.out (by omega)).mono ?_; rintro e w11 ⟨rfl, hd⟩
  have HS := Lib.hid (drawn_below hd)
  replace HT := Lib.hid (HT.out.below HS.out (by omega))
  replace HU := Lib.hid (HU.out.below HS.out (by omega))
  replace HW0 := Lib.hid (HW0.out.below HS.out (by omega))
  replace HX := Lib.hid (HX.out.below HS.out (by omega))
  replace HY := Lib.hid (HY.out.below HS.out (by omega))
  replace HG := Lib.hid (HG.out.below HS.out (by omega))
  replace HV := Lib.hid (HV.out.below HS.out (by omega))
  replace HZ := Lib.hid (HZ.out.below HS.out (by omega))
  replace HB := Lib.hid (Below.step HB.out HS.out)
  have hs11 : w10.heap.size ≤ w11.heap.size := HS.out.size
  clear HS
  clear hd
  clear HT HU HV HZ
  go_wp2_with fail
  refine (markIntS_any _ _ _ _ ya 1 _ HX.out (by omega) (by omega)).mono ?_; rintro e w12 ⟨rfl, hI, ho, hz⟩
  have HO := Lib.hid ho
  replace HW0 := Lib.hid (HW0.out.only HO.out (by omega) (by omega))
  replace HY := Lib.hid (HY.out.only HO.out (by omega) (by omega))
  replace HG := Lib.hid (HG.out.only HO.out (by omega) (by omega))
  replace HX := Lib.hid hI
  replace HB := Lib.hid (HB.out.trans (HO.out.below (by omega) (by omega)))
  have hs12 : w11.heap.size ≤ w12.heap.size := by omega
  clear hI ho hz HO
  go_wp2_with fail
  refine (markIntS_any _ _ _ _ yb (1 + ya.length) _ HY.out (by omega) (by omega)).mono ?_; rintro e w13 ⟨rfl, hI, ho, hz⟩
  have HO := Lib.hid ho
  replace HW0 := Lib.hid (HW0.out.only HO.out (by omega) (by omega))
  replace HX := Lib.hid (HX.out.only HO.out (by omega) (by omega))
  replace HG := Lib.hid (HG.out.only HO.out (by omega) (by omega))
  replace HY := Lib.hid hI
  replace HB := Lib.hid (HB.out.trans (HO.out.below (by omega) (by omega)))
  have hs13 : w12.heap.size ≤ w13.heap.size := by omega
  clear hI ho hz HO
  go_wp2_with fail
  refine (eqIntS_eq _ _ _ _ _ _ _ _ r.1 _ HG.out HW0.out (by omega)).mono ?_; rintro e w14 ⟨rfl, hd⟩
  have HS := Lib.hid (drawn_below hd)
  replace HW0 := Lib.hid (HW0.out.below HS.out (by omega))
  replace HX := Lib.hid (HX.out.below HS.out (by omega))
  replace HY := Lib.hid (HY.out.below HS.out (by omega))
  replace HG := Lib.hid (HG.out.below HS.out (by omega))
  replace HB := Lib.hid (Below.step HB.out HS.out)
  have hs14 : w13.heap.size ≤ w14.heap.size := HS.out.size
  clear HS
  clear hd
  go_wp2_with fail
  refine (markIntS_any _ _ _ _ r.1 1 _ HG.out (by omega) (by omega)).mono ?_; rintro e w15 ⟨rfl, hI, ho, hz⟩
  have HO := Lib.hid ho
  replace HW0 := Lib.hid (HW0.out.only HO.out (by omega) (by omega))
  replace HX := Lib.hid (HX.out.only HO.out (by omega) (by omega))
  replace HY := Lib.hid (HY.out.only HO.out (by omega) (by omega))
  replace HG := Lib.hid hI
  replace HB := Lib.hid (HB.out.trans (HO.out.below (by omega) (by omega)))
  have hs15 : w14.heap.size ≤ w15.heap.size := by omega
  clear hI ho hz HO
  go_wp2_with fail
  refine (heldIntS_any _ _ _ _ r.1.length 1 _ HG.out (by omega) (by omega)).mono ?_; rintro e w' ⟨rfl, rfl⟩
  go_wp2_with fail
  refine (toIntS_any A c _ ya _ (HA.out.below HB.out (Nat.le_refl _)) ha' HB.out.size).mono ?_; rintro e w16 ⟨A16, c16, rfl, hI, hb⟩
  have HS := Lib.hid (hb)
  replace HW0 := Lib.hid (HW0.out.below HS.out (by omega))
  replace HX := Lib.hid (HX.out.below HS.out (by omega))
  replace HY := Lib.hid (HY.out.below HS.out (by omega))
  replace HG := Lib.hid (HG.out.below HS.out (by omega))
  replace HB := Lib.hid (Below.step HB.out HS.out)
  have hs16 : w15.heap.size ≤ w16.heap.size := HS.out.size
  clear HS
  have HT := Lib.hid hI
  clear hI hb
  go_wp2_with fail
  refine (toIntS_any B d _ yb _ (HC.out.below HB.out (Nat.le_refl _)) hb' HB.out.size).mono ?_; rintro e w17 ⟨A17, c17, rfl, hI, hb⟩
  have HS := Lib.hid (hb)
  replace HW0 := Lib.hid (HW0.out.below HS.out (by omega))
  replace HX := Lib.hid (HX.out.below HS.out (by omega))
  replace HY := Lib.hid (HY.out.below HS.out (by omega))
  replace HG := Lib.hid (HG.out.below HS.out (by omega))
  replace HT := Lib.hid (HT.out.below HS.out (by omega))
  replace HB := Lib.hid (Below.step HB.out HS.out)
  have hs17 : w16.heap.size ≤ w17.heap.size := HS.out.size
  clear HS
  have HU := Lib.hid hI
  clear hI hb
  go_wp2_with fail
  refine (vecSub_any _ _ _ _ _ _ _ _ ya yb _ HT.out HU.out ha' hb' (by omega) (by omega)).mono ?_; rintro e w18 ⟨A18, c18, rfl, hI, hb⟩
  have HS := Lib.hid (hb)
  replace HW0 := Lib.hid (HW0.out.below HS.out (by omega))
  replace HX := Lib.hid (HX.out.below HS.out (by omega))
  replace HY := Lib.hid (HY.out.below HS.out (by omega))
  replace HG := Lib.hid (HG.out.below HS.out (by omega))
  replace HT := Lib.hid (HT.out.below HS.out (by omega))
  replace HU := Lib.hid (HU.out.below HS.out (by omega))
  replace HB := Lib.hid (Below.step HB.out HS.out)
  have hs18 : w17.heap.size ≤ w18.heap.size := HS.out.size
  clear HS
  have HH := Lib.hid hI
  clear hI hb
  rw [HR.out] at HH ⊢
  go_wp2_with fail
  refine (eqIntS_eq _ _ _ _ _ _ _ _ r.1 _ HH.out HW0.out (by omega)).mono ?_; rintro e w19 ⟨rfl, hd⟩
  have HS := Lib.hid (drawn_below hd)
  replace HW0 := Lib.hid (HW0.out.below HS.out (by omega))
  replace HX := Lib.hid (HX.out.below HS.out (by omega))
  replace HY := Lib.hid (HY.out.below HS.out (by omega))
  replace HG := Lib.hid (HG.out.below HS.out (by omega))
  replace HT := Lib.hid (HT.out.below HS.out (by omega))
  replace HU := Lib.hid (HU.out.below HS.out (by omega))
  replace HH := Lib.hid (HH.out.below HS.out (by omega))
  replace HB := Lib.hid (Below.step HB.out HS.out)
  have hs19 : w18.heap.size ≤ w19.heap.size := HS.out.size
  clear HS
  clear hd
  go_wp2_with fail
  refine (heldIntS_any _ _ _ _ r.1.length 1 _ HG.out (by omega) (by omega)).mono ?_; rintro e w' ⟨rfl, rfl⟩
  go_wp2_with fail
  go_ret
  exact ⟨by simp, HB.out⟩
end Go.Proofs.Ythnpekmohbpncaa
