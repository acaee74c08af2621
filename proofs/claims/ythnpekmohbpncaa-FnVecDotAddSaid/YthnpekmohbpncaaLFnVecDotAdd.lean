/- The walk of one statement: by the contracts of what it calls it returns true and changes nothing that was there. No condition. -/
import Derived.Test.YthnpekmohbpncaaDd
import Derived.Test.YthnpekmohbpncaaPv
namespace Go.Proofs.Ythnpekmohbpncaa
open Go.RowKit
theorem FnVecDotAdd_walk (A : Option Addr) (n c : Nat) (w : World) (hA : BytesR w w.heap.size A n) (hc : n ≤ c) (hm : c ≤ maxLen) :
    Calls Try.prog 13 #[.slice A n c] w fun e w' => e = .returned (.bool true) ∧ Below w.heap.size w w' := by
  have HA := Lib.hid hA; clear hA
  by_cases hn : 1048576 < n
  · go_enter Try.func13, Try.ntmps13
    go_wp2
    go_ret
    exact ⟨by simp, Below.refl _ _⟩
  have hnd : ¬ ((1048576 : Int) < (n : Int)) := by omega
  go_enter Try.func13, Try.ntmps13
  have HB := Lib.hid (Below.refl w.heap.size w)
  go_wp2_with fail
  refine (DrawVecDot_any A n c w HA.out hc hm).mono ?_; rintro e w1 ⟨A1, c1, za, B1, d1, zb, rfl, h1, hlza, hzza, h4, hlzb, hzzb, h7⟩
  have HS := Lib.hid (h7)
  replace HB := Lib.hid (Below.step HB.out HS.out)
  clear HS
  have HX := Lib.hid (h1.mono (Nat.zero_le _) (Nat.le_refl _))
  have HY := Lib.hid (h4.mono (Nat.zero_le _) (Nat.le_refl _))
  clear h1 h4 h7 hzza hzzb
  go_wp2_with fail
  refine (vecDot_any _ _ _ _ _ _ _ _ za zb _ HX.out HY.out (by omega) (by omega)).mono ?_; rintro e w' ⟨rfl, rfl⟩
  go_wp2_with fail
  refine (vecDotS_any _ _ _ _ _ _ _ _ za zb _ HX.out HY.out (by omega) (by omega)).mono ?_; rintro e w2 ⟨rfl, hd⟩
  have HS := Lib.hid (drawn_below hd)
  replace HX := Lib.hid (HX.out.step HS.out)
  replace HY := Lib.hid (HY.out.step HS.out)
  replace HB := Lib.hid (Below.step HB.out HS.out)
  clear HS
  clear hd
  cases hv : (vecB za && vecB zb)
  · rw [vdot_no hv]
    go_wp2_with fail
    go_ret
    exact ⟨by simp, HB.out⟩
  · have HV := Lib.hid hv
    obtain ⟨hv0, hv1⟩ := vdot_nonneg hv
    have HVA := Lib.hid (Bool.and_eq_true_iff.1 hv).1
    have HVB := Lib.hid (Bool.and_eq_true_iff.1 hv).2
    obtain ⟨hv2, hv3⟩ := vdot_nonneg (a := za) (b := za) (by rw [HVA.out]; rfl)
    clear hv
    have hvd : ¬ (vdot za zb < 0) := by omega
    go_wp2_with fail
    refine (vecAdd_any _ _ _ _ _ _ _ _ za zb _ HX.out HY.out (by omega) (by omega) (Nat.le_refl _) (Nat.le_refl _)).mono ?_; rintro e w3 ⟨A3, c3, rfl, hI, hb⟩
    have HS := Lib.hid (hb)
    replace HX := Lib.hid (HX.out.step HS.out)
    replace HY := Lib.hid (HY.out.step HS.out)
    replace HB := Lib.hid (Below.step HB.out HS.out)
    clear HS
    have HS := Lib.hid (hI.mono (Nat.zero_le _) (Nat.le_refl _))
    clear hI hb
    have HS0 := HS; clear HS
    cases hf : (vaddR za zb).2
    · go_wp2_with fail
      go_ret
      exact ⟨by simp, HB.out⟩
    · obtain ⟨_, _, hvs, he⟩ := vadd_yes hf
      rw [he] at HS0 ⊢
      have HD := Lib.hid (vdot_add HVA.out HVB.out hvs)
      have hls : (addL za zb 1).length ≤ 1048576 := by rw [vec_len hvs]; omega
      clear hf hvs he
      go_wp2_with fail
      refine (vecDot_any _ _ _ _ _ _ _ _ za (addL za zb 1) _ HX.out HS0.out (by omega) hls).mono ?_; rintro e w' ⟨rfl, rfl⟩
      rw [HD.out]
      go_wp2_with fail
      refine (vecDot_any _ _ _ _ _ _ _ _ za za _ HX.out HX.out (by omega) (by omega)).mono ?_; rintro e w' ⟨rfl, rfl⟩
      go_wp2_with fail
      go_ret
      exact ⟨by simp, HB.out⟩
end Go.Proofs.Ythnpekmohbpncaa
