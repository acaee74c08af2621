/- The walk of one statement: by the contracts of what it calls it returns true and changes nothing that was there. No condition. -/
import Derived.Test.YtojbljaleconpaaDd
import Derived.Test.YtojbljaleconpaaPw
namespace Go.Proofs.Ytojbljaleconpaa
open Go.RowKit
theorem FnVecSub_walk (A : Option Addr) (n c : Nat) (w : World) (hA : BytesR w w.heap.size A n) (hc : n ≤ c) (hm : c ≤ maxLen) :
    Calls Try.prog 5 #[.slice A n c] w fun e w' => e = .returned (.bool true) ∧ Below w.heap.size w w' := by
  have HA := Lib.hid hA; clear hA
  by_cases hn : 1048576 < n
  · go_enter Try.func5, Try.ntmps5
    go_wp2
    go_ret
    exact ⟨by simp, Below.refl _ _⟩
  have hnd : ¬ ((1048576 : Int) < (n : Int)) := by omega
  go_enter Try.func5, Try.ntmps5
  have HB := Lib.hid (Below.refl w.heap.size w)
  go_wp2_with fail
  refine (DrawVecSub_any A n c w HA.out hc hm).mono ?_; rintro e w1 ⟨A1, c1, za, B1, d1, zb, rfl, h1, hlza, hzza, h4, hlzb, hzzb, h7⟩
  have HS := Lib.hid (h7)
  replace HB := Lib.hid (Below.step HB.out HS.out)
  clear HS
  have HX := Lib.hid (h1.mono (Nat.zero_le _) (Nat.le_refl _))
  have HY := Lib.hid (h4.mono (Nat.zero_le _) (Nat.le_refl _))
  clear h1 h4 h7 hzza hzzb
  go_wp2_with fail
  refine (vecSub_any _ _ _ _ _ _ _ _ za zb _ HX.out HY.out (by omega) (by omega) (Nat.le_refl _) (Nat.le_refl _)).mono ?_; rintro e w2 ⟨A2, c2, rfl, hI, hb⟩
  have HS := Lib.hid (hb)
  replace HX := Lib.hid (HX.out.step HS.out)
  replace HY := Lib.hid (HY.out.step HS.out)
  replace HB := Lib.hid (Below.step HB.out HS.out)
  clear HS
  have HM := Lib.hid (hI.mono (Nat.zero_le _) (Nat.le_refl _))
  clear hI hb
  go_wp2_with fail
  refine (vecSubS_any _ _ _ _ _ _ _ _ za zb _ HX.out HY.out (by omega) (by omega) (Nat.le_refl _) (Nat.le_refl _)).mono ?_; rintro e w3 ⟨A3, c3, rfl, hI, hb⟩
  have HS := Lib.hid (hb)
  replace HX := Lib.hid (HX.out.step HS.out)
  replace HY := Lib.hid (HY.out.step HS.out)
  replace HM := Lib.hid (HM.out.step HS.out)
  replace HB := Lib.hid (Below.step HB.out HS.out)
  clear HS
  have HN := Lib.hid (hI.mono (Nat.zero_le _) (Nat.le_refl _))
  clear hI hb
  have hlr : (vsubR za zb).1.length ≤ 3 := vsub_len za zb
  go_wp2_with fail
  refine (sameInts_eq _ _ _ _ _ _ _ _ (vsubR za zb).1 _ HM.out HN.out (by omega)).mono ?_; rintro e w4 ⟨rfl, hd⟩
  have HS := Lib.hid (drawn_below hd)
  replace HX := Lib.hid (HX.out.step HS.out)
  replace HY := Lib.hid (HY.out.step HS.out)
  replace HM := Lib.hid (HM.out.step HS.out)
  replace HN := Lib.hid (HN.out.step HS.out)
  replace HB := Lib.hid (Below.step HB.out HS.out)
  clear HS
  clear hd
  cases hva : vecB za
  · have HV := Lib.hid hva; clear hva
    go_wp2_with fail
    refine (vecValidS_any _ _ _ _ za _ HX.out (by omega)).mono ?_; rintro e w' ⟨rfl, rfl⟩
    rw [HV.out]
    go_wp2_with fail
    refine (sameInts_eq _ _ _ _ _ _ _ _ (vsubR za zb).1 _ HM.out HN.out (by omega)).mono ?_; rintro e w5 ⟨rfl, hd⟩
    have HS := Lib.hid (drawn_below hd)
    replace HX := Lib.hid (HX.out.step HS.out)
    replace HY := Lib.hid (HY.out.step HS.out)
    replace HM := Lib.hid (HM.out.step HS.out)
    replace HN := Lib.hid (HN.out.step HS.out)
    replace HB := Lib.hid (Below.step HB.out HS.out)
    clear HS
    clear hd
    go_wp2_with fail
    go_ret
    exact ⟨by simp, HB.out⟩
  · have HVA := Lib.hid hva; clear hva
    go_wp2_with fail
    refine (vecValidS_any _ _ _ _ za _ HX.out (by omega)).mono ?_; rintro e w' ⟨rfl, rfl⟩
    rw [HVA.out]
    cases hvb : vecB zb
    · have HV := Lib.hid hvb; clear hvb
      go_wp2_with fail
      refine (vecValidS_any _ _ _ _ zb _ HY.out (by omega)).mono ?_; rintro e w' ⟨rfl, rfl⟩
      rw [HV.out]
      go_wp2_with fail
      refine (sameInts_eq _ _ _ _ _ _ _ _ (vsubR za zb).1 _ HM.out HN.out (by omega)).mono ?_; rintro e w5 ⟨rfl, hd⟩
      have HS := Lib.hid (drawn_below hd)
      replace HX := Lib.hid (HX.out.step HS.out)
      replace HY := Lib.hid (HY.out.step HS.out)
      replace HM := Lib.hid (HM.out.step HS.out)
      replace HN := Lib.hid (HN.out.step HS.out)
      replace HB := Lib.hid (Below.step HB.out HS.out)
      clear HS
      clear hd
      go_wp2_with fail
      go_ret
      exact ⟨by simp, HB.out⟩
    · have HVB := Lib.hid hvb; clear hvb
      go_wp2_with fail
      refine (vecValidS_any _ _ _ _ zb _ HY.out (by omega)).mono ?_; rintro e w' ⟨rfl, rfl⟩
      rw [HVB.out]
      cases hf : vfitsB zb za
      · have HF := Lib.hid hf
        have h0 := vsub_no hf
        rw [h0] at HM HN ⊢
        clear hf h0 hlr
        have HE : Hid (vaddR [] zb = ([], false)) := Lib.hid (by simp [vaddR, vecB])
        go_wp2_with fail
        refine (vecAdd_any _ _ _ _ _ _ _ _ [] zb _ HM.out HY.out (by simp) (by omega) (Nat.le_refl _) (Nat.le_refl _)).mono ?_; rintro e w5 ⟨A5, c5, rfl, hI, hb⟩
        have HS := Lib.hid (hb)
        replace HX := Lib.hid (HX.out.step HS.out)
        replace HY := Lib.hid (HY.out.step HS.out)
        replace HM := Lib.hid (HM.out.step HS.out)
        replace HN := Lib.hid (HN.out.step HS.out)
        replace HB := Lib.hid (Below.step HB.out HS.out)
        clear HS
        have HQ := Lib.hid (hI.mono (Nat.zero_le _) (Nat.le_refl _))
        clear hI hb
        rw [HE.out] at HQ ⊢
        go_wp2_with fail
        refine (vecFits_any _ _ _ _ _ _ _ _ zb za _ HY.out HX.out (by omega) (by omega)).mono ?_; rintro e w' ⟨rfl, rfl⟩
        rw [HF.out]
        go_wp2_with fail
        go_ret
        exact ⟨by simp, HB.out⟩
      · have HF := Lib.hid hf
        obtain ⟨h0, h1⟩ := vsub_yes hf
        rw [h0] at HM HN ⊢
        have HE := Lib.hid h1
        have hls : (addL za zb (-1)).length ≤ 1048576 := by rw [addL_len (vec_len HVA.out) (vec_len HVB.out)]; omega
        clear hf h0 h1 hlr
        go_wp2_with fail
        refine (vecAdd_any _ _ _ _ _ _ _ _ (addL za zb (-1)) zb _ HM.out HY.out hls (by omega) (Nat.le_refl _) (Nat.le_refl _)).mono ?_; rintro e w5 ⟨A5, c5, rfl, hI, hb⟩
        have HS := Lib.hid (hb)
        replace HX := Lib.hid (HX.out.step HS.out)
        replace HY := Lib.hid (HY.out.step HS.out)
        replace HM := Lib.hid (HM.out.step HS.out)
        replace HN := Lib.hid (HN.out.step HS.out)
        replace HB := Lib.hid (Below.step HB.out HS.out)
        clear HS
        have HQ := Lib.hid (hI.mono (Nat.zero_le _) (Nat.le_refl _))
        clear hI hb
        rw [HE.out] at HQ ⊢
        go_wp2_with fail
        refine (vecFits_any _ _ _ _ _ _ _ _ zb za _ HY.out HX.out (by omega) (by omega)).mono ?_; rintro e w' ⟨rfl, rfl⟩
        rw [HF.out]
        go_wp2_with fail
        refine (sameInts_eq _ _ _ _ _ _ _ _ za _ HQ.out HX.out (by omega)).mono ?_; rintro e w6 ⟨rfl, hd⟩
        have HS := Lib.hid (drawn_below hd)
        replace HX := Lib.hid (HX.out.step HS.out)
        replace HY := Lib.hid (HY.out.step HS.out)
        replace HM := Lib.hid (HM.out.step HS.out)
        replace HN := Lib.hid (HN.out.step HS.out)
        replace HQ := Lib.hid (HQ.out.step HS.out)
        replace HB := Lib.hid (Below.step HB.out HS.out)
        clear HS
        clear hd
        go_wp2_with fail
        go_ret
        exact ⟨by simp, HB.out⟩
end Go.Proofs.Ytojbljaleconpaa
