/- The walk of one statement: by the contracts of what it calls it returns true and changes nothing that was there. No condition. -/
import Derived.Test.YtojbljaleconpaaDd
import Derived.Test.YtojbljaleconpaaPw
namespace Go.Proofs.Ytojbljaleconpaa
open Go.RowKit
theorem FnVecAdd_walk (A : Option Addr) (n c : Nat) (w : World) (hA : BytesR w w.heap.size A n) (hc : n ≤ c) (hm : c ≤ maxLen) :
    Calls Try.prog 4 #[.slice A n c] w fun e w' => e = .returned (.bool true) ∧ Below w.heap.size w w' := by
  have HA := Lib.hid hA; clear hA
  by_cases hn : 1048576 < n
  · go_enter Try.func4, Try.ntmps4
    go_wp2
    go_ret
    exact ⟨by simp, Below.refl _ _⟩
  have hnd : ¬ ((1048576 : Int) < (n : Int)) := by omega
  go_enter Try.func4, Try.ntmps4
  have HB := Lib.hid (Below.refl w.heap.size w)
  go_wp2_with fail
  refine (DrawVecAdd_any A n c w HA.out hc hm).mono ?_; rintro e w1 ⟨A1, c1, za, B1, d1, zb, rfl, h1, hlza, hzza, h4, hlzb, hzzb, h7⟩
  have HS := Lib.hid (h7)
  replace HB := Lib.hid (Below.step HB.out HS.out)
  clear HS
  have HX := Lib.hid (h1.mono (Nat.zero_le _) (Nat.le_refl _))
  have HY := Lib.hid (h4.mono (Nat.zero_le _) (Nat.le_refl _))
  clear h1 h4 h7 hzza hzzb
  go_wp2_with fail
  refine (vecAdd_any _ _ _ _ _ _ _ _ za zb _ HX.out HY.out (by omega) (by omega) (Nat.le_refl _) (Nat.le_refl _)).mono ?_; rintro e w2 ⟨A2, c2, rfl, hI, hb⟩
  have HS := Lib.hid (hb)
  replace HX := Lib.hid (HX.out.step HS.out)
  replace HY := Lib.hid (HY.out.step HS.out)
  replace HB := Lib.hid (Below.step HB.out HS.out)
  clear HS
  have HM := Lib.hid (hI.mono (Nat.zero_le _) (Nat.le_refl _))
  clear hI hb
  go_wp2_with fail
  refine (vecAddS_any _ _ _ _ _ _ _ _ za zb _ HX.out HY.out (by omega) (by omega) (Nat.le_refl _) (Nat.le_refl _)).mono ?_; rintro e w3 ⟨A3, c3, rfl, hI, hb⟩
  have HS := Lib.hid (hb)
  replace HX := Lib.hid (HX.out.step HS.out)
  replace HY := Lib.hid (HY.out.step HS.out)
  replace HM := Lib.hid (HM.out.step HS.out)
  replace HB := Lib.hid (Below.step HB.out HS.out)
  clear HS
  have HN := Lib.hid (hI.mono (Nat.zero_le _) (Nat.le_refl _))
  clear hI hb
  have hlr : (vaddR za zb).1.length ≤ 3 := vadd_len za zb
  go_wp2_with fail
  refine (sameInts_eq _ _ _ _ _ _ _ _ (vaddR za zb).1 _ HM.out HN.out (by omega)).mono ?_; rintro e w4 ⟨rfl, hd⟩
  have HS := Lib.hid (drawn_below hd)
  replace HX := Lib.hid (HX.out.step HS.out)
  replace HY := Lib.hid (HY.out.step HS.out)
  replace HM := Lib.hid (HM.out.step HS.out)
  replace HN := Lib.hid (HN.out.step HS.out)
  replace HB := Lib.hid (Below.step HB.out HS.out)
  clear HS
  clear hd
  cases hv : (vaddR za zb).2
  · have HV := Lib.hid hv
    go_wp2_with fail
    refine (sameInts_eq _ _ _ _ _ _ _ _ (vaddR za zb).1 _ HM.out HN.out (by omega)).mono ?_; rintro e w5 ⟨rfl, hd⟩
    have HS := Lib.hid (drawn_below hd)
    replace HX := Lib.hid (HX.out.step HS.out)
    replace HY := Lib.hid (HY.out.step HS.out)
    replace HM := Lib.hid (HM.out.step HS.out)
    replace HN := Lib.hid (HN.out.step HS.out)
    replace HB := Lib.hid (Below.step HB.out HS.out)
    clear HS
    clear hd
    go_wp2_with fail
    go_ret
    exact ⟨by simp, HB.out⟩
  · obtain ⟨hva, hvb, hvs, he⟩ := vadd_yes hv
    have hr : vaddR za zb = (addL za zb 1, true) := Prod.ext he hv
    have HC := Lib.hid ((vadd_comm za zb).trans hr)
    obtain ⟨e1, e2, e3, e4⟩ := vsub_of_add hva hvb hvs
    have H1 := Lib.hid e1
    have H2 := Lib.hid e2
    have H3 := Lib.hid e3
    have H4 := Lib.hid e4
    rw [he] at HM HN ⊢
    have hls : (addL za zb 1).length ≤ 1048576 := by rw [vec_len hvs]; omega
    clear hv hva hvb hvs he hr e1 e2 e3 e4 hlr
    go_wp2_with fail
    refine (vecAdd_any _ _ _ _ _ _ _ _ zb za _ HY.out HX.out (by omega) (by omega) (Nat.le_refl _) (Nat.le_refl _)).mono ?_; rintro e w5 ⟨A5, c5, rfl, hI, hb⟩
    have HS := Lib.hid (hb)
    replace HX := Lib.hid (HX.out.step HS.out)
    replace HY := Lib.hid (HY.out.step HS.out)
    replace HM := Lib.hid (HM.out.step HS.out)
    replace HN := Lib.hid (HN.out.step HS.out)
    replace HB := Lib.hid (Below.step HB.out HS.out)
    clear HS
    have HQ := Lib.hid (hI.mono (Nat.zero_le _) (Nat.le_refl _))
    clear hI hb
    rw [HC.out] at HQ ⊢
    go_wp2_with fail
    refine (vecSub_any _ _ _ _ _ _ _ _ (addL za zb 1) za _ HM.out HX.out hls (by omega) (Nat.le_refl _) (Nat.le_refl _)).mono ?_; rintro e w6 ⟨A6, c6, rfl, hI, hb⟩
    have HS := Lib.hid (hb)
    replace HX := Lib.hid (HX.out.step HS.out)
    replace HY := Lib.hid (HY.out.step HS.out)
    replace HM := Lib.hid (HM.out.step HS.out)
    replace HN := Lib.hid (HN.out.step HS.out)
    replace HQ := Lib.hid (HQ.out.step HS.out)
    replace HB := Lib.hid (Below.step HB.out HS.out)
    clear HS
    have HR := Lib.hid (hI.mono (Nat.zero_le _) (Nat.le_refl _))
    clear hI hb
    rw [H1.out] at HR ⊢
    go_wp2_with fail
    refine (vecSub_any _ _ _ _ _ _ _ _ (addL za zb 1) zb _ HM.out HY.out hls (by omega) (Nat.le_refl _) (Nat.le_refl _)).mono ?_; rintro e w7 ⟨A7, c7, rfl, hI, hb⟩
    have HS := Lib.hid (hb)
    replace HX := Lib.hid (HX.out.step HS.out)
    replace HY := Lib.hid (HY.out.step HS.out)
    replace HM := Lib.hid (HM.out.step HS.out)
    replace HN := Lib.hid (HN.out.step HS.out)
    replace HQ := Lib.hid (HQ.out.step HS.out)
    replace HR := Lib.hid (HR.out.step HS.out)
    replace HB := Lib.hid (Below.step HB.out HS.out)
    clear HS
    have HT := Lib.hid (hI.mono (Nat.zero_le _) (Nat.le_refl _))
    clear hI hb
    rw [H2.out] at HT ⊢
    go_wp2_with fail
    refine (sameInts_eq _ _ _ _ _ _ _ _ (addL za zb 1) _ HQ.out HM.out (by omega)).mono ?_; rintro e w8 ⟨rfl, hd⟩
    have HS := Lib.hid (drawn_below hd)
    replace HX := Lib.hid (HX.out.step HS.out)
    replace HY := Lib.hid (HY.out.step HS.out)
    replace HM := Lib.hid (HM.out.step HS.out)
    replace HN := Lib.hid (HN.out.step HS.out)
    replace HQ := Lib.hid (HQ.out.step HS.out)
    replace HR := Lib.hid (HR.out.step HS.out)
    replace HT := Lib.hid (HT.out.step HS.out)
    replace HB := Lib.hid (Below.step HB.out HS.out)
    clear HS
    clear hd
    go_wp2_with fail
    refine (sameInts_eq _ _ _ _ _ _ _ _ zb _ HR.out HY.out (by omega)).mono ?_; rintro e w9 ⟨rfl, hd⟩
    have HS := Lib.hid (drawn_below hd)
    replace HX := Lib.hid (HX.out.step HS.out)
    replace HY := Lib.hid (HY.out.step HS.out)
    replace HM := Lib.hid (HM.out.step HS.out)
    replace HN := Lib.hid (HN.out.step HS.out)
    replace HQ := Lib.hid (HQ.out.step HS.out)
    replace HR := Lib.hid (HR.out.step HS.out)
    replace HT := Lib.hid (HT.out.step HS.out)
    replace HB := Lib.hid (Below.step HB.out HS.out)
    clear HS
    clear hd
    go_wp2_with fail
    refine (sameInts_eq _ _ _ _ _ _ _ _ za _ HT.out HX.out (by omega)).mono ?_; rintro e w10 ⟨rfl, hd⟩
    have HS := Lib.hid (drawn_below hd)
    replace HX := Lib.hid (HX.out.step HS.out)
    replace HY := Lib.hid (HY.out.step HS.out)
    replace HM := Lib.hid (HM.out.step HS.out)
    replace HN := Lib.hid (HN.out.step HS.out)
    replace HQ := Lib.hid (HQ.out.step HS.out)
    replace HR := Lib.hid (HR.out.step HS.out)
    replace HT := Lib.hid (HT.out.step HS.out)
    replace HB := Lib.hid (Below.step HB.out HS.out)
    clear HS
    clear hd
    go_wp2_with fail
    refine (vecFits_any _ _ _ _ _ _ _ _ za (addL za zb 1) _ HX.out HM.out (by omega) hls).mono ?_; rintro e w' ⟨rfl, rfl⟩
    rw [H3.out]
    go_wp2_with fail
    refine (vecFits_any _ _ _ _ _ _ _ _ zb (addL za zb 1) _ HY.out HM.out (by omega) hls).mono ?_; rintro e w' ⟨rfl, rfl⟩
    rw [H4.out]
    go_wp2_with fail
    go_ret
    exact ⟨by simp, HB.out⟩
end Go.Proofs.Ytojbljaleconpaa
