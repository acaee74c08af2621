/- The walk of one statement: by the contracts of what it calls it returns true and changes nothing that was there. No condition. -/
import Derived.Test.YthnpekmohbpncaaDd
import Derived.Test.YthnpekmohbpncaaPv
namespace Go.Proofs.Ythnpekmohbpncaa
open Go.RowKit
theorem FnVecMax_walk (A : Option Addr) (n c : Nat) (w : World) (hA : BytesR w w.heap.size A n) (hc : n ≤ c) (hm : c ≤ maxLen) :
    Calls Try.prog 14 #[.slice A n c] w fun e w' => e = .returned (.bool true) ∧ Below w.heap.size w w' := by
  have HA := Lib.hid hA; clear hA
  by_cases hn : 1048576 < n
  · go_enter Try.func14, Try.ntmps14
    go_wp2
    go_ret
    exact ⟨by simp, Below.refl _ _⟩
  have hnd : ¬ ((1048576 : Int) < (n : Int)) := by omega
  go_enter Try.func14, Try.ntmps14
  have HB := Lib.hid (Below.refl w.heap.size w)
  go_wp2_with fail
  refine (DrawVecMax_any A n c w HA.out hc hm).mono ?_; rintro e w1 ⟨A1, c1, za, B1, d1, zb, rfl, h1, hlza, hzza, h4, hlzb, hzzb, h7⟩
  have HS := Lib.hid (h7)
  replace HB := Lib.hid (Below.step HB.out HS.out)
  clear HS
  have HX := Lib.hid (h1.mono (Nat.zero_le _) (Nat.le_refl _))
  have HY := Lib.hid (h4.mono (Nat.zero_le _) (Nat.le_refl _))
  clear h1 h4 h7 hzza hzzb
  go_wp2_with fail
  refine (vecMax_any _ _ _ _ _ _ _ _ za zb _ HX.out HY.out (by omega) (by omega) (Nat.le_refl _) (Nat.le_refl _)).mono ?_; rintro e w2 ⟨A2, c2, rfl, hI, hb⟩
  have HS := Lib.hid (hb)
  replace HX := Lib.hid (HX.out.step HS.out)
  replace HY := Lib.hid (HY.out.step HS.out)
  replace HB := Lib.hid (Below.step HB.out HS.out)
  clear HS
  have HM := Lib.hid (hI.mono (Nat.zero_le _) (Nat.le_refl _))
  clear hI hb
  go_wp2_with fail
  refine (vecMaxS_any _ _ _ _ _ _ _ _ za zb _ HX.out HY.out (by omega) (by omega) (Nat.le_refl _) (Nat.le_refl _)).mono ?_; rintro e w3 ⟨A3, c3, rfl, hI, hb⟩
  have HS := Lib.hid (hb)
  replace HX := Lib.hid (HX.out.step HS.out)
  replace HY := Lib.hid (HY.out.step HS.out)
  replace HM := Lib.hid (HM.out.step HS.out)
  replace HB := Lib.hid (Below.step HB.out HS.out)
  clear HS
  have HN := Lib.hid (hI.mono (Nat.zero_le _) (Nat.le_refl _))
  clear hI hb
  have hml : (vmaxR za zb).length ≤ 3 := vmax_len za zb
  go_wp2_with fail
  refine (sameInts_eq _ _ _ _ _ _ _ _ (vmaxR za zb) _ HM.out HN.out (by omega)).mono ?_; rintro e w4 ⟨rfl, hd⟩
  have HS := Lib.hid (drawn_below hd)
  replace HX := Lib.hid (HX.out.step HS.out)
  replace HY := Lib.hid (HY.out.step HS.out)
  replace HM := Lib.hid (HM.out.step HS.out)
  replace HN := Lib.hid (HN.out.step HS.out)
  replace HB := Lib.hid (Below.step HB.out HS.out)
  clear HS
  clear hd
  cases hv : (vecB za && vecB zb)
  · have h0 : (vmaxR za zb) = [] := vmax_no hv
    rw [h0] at HM HN ⊢
    clear hml h0
    go_wp2_with fail
    refine (sameInts_eq _ _ _ _ _ _ _ _ [] _ HM.out HN.out (by simp)).mono ?_; rintro e w5 ⟨rfl, hd⟩
    have HS := Lib.hid (drawn_below hd)
    replace HX := Lib.hid (HX.out.step HS.out)
    replace HY := Lib.hid (HY.out.step HS.out)
    replace HM := Lib.hid (HM.out.step HS.out)
    replace HN := Lib.hid (HN.out.step HS.out)
    replace HB := Lib.hid (Below.step HB.out HS.out)
    clear HS
    clear hd
    go_wp2_with fail
    go_ret
    exact ⟨by simp, HB.out⟩
  · obtain ⟨he, hmv, hfa, hfb, hm3⟩ := vmax_vec hv
    have HC := Lib.hid ((vmax_comm za zb).trans he)
    rw [he] at HM HN ⊢
    have HVA := Lib.hid (Bool.and_eq_true_iff.1 hv).1
    have HVB := Lib.hid (Bool.and_eq_true_iff.1 hv).2
    have HLa := Lib.hid (vec_len HVA.out)
    have HLb := Lib.hid (vec_len HVB.out)
    have HFA := Lib.hid hfa
    have HFB := Lib.hid hfb
    have HM3 := Lib.hid hm3
    have hml3 : (maxL za zb).length ≤ 1048576 := by omega
    have hm30 : ((((maxL za zb).length : Nat) : Int) == 0) = false := by rw [hm3]; rfl
    clear hv he hmv hfa hfb hml hm3
    go_wp2_with fail
    go_loopw [7] (fun i wr => ∃ k : Nat, k ≤ 3 ∧ i = .int .i64 k ∧ Below w4.heap.size w4 wr) (fun i _ => 3 - (intOf i).toNat)
    case atStart => exact ⟨0, by omega, rfl, Below.refl _ _⟩
    case round =>
      obtain ⟨k, hk, rfl, hbl⟩ := hrel
      have HS := Lib.hid hbl; clear hbl
      by_cases hlt : k < 3
      · obtain ⟨p, off, x, rfl, hx, hc, _, _, _⟩ := (HX.out.step HS.out).at_ (k := k) (by rw [HLa.out]; exact hlt)
        obtain ⟨p', off', y, rfl, hy, hc', _, _, _⟩ := (HY.out.step HS.out).at_ (k := k) (by rw [HLb.out]; exact hlt)
        obtain ⟨q, off2, m, rfl, hmm, hcm, _, _, _⟩ := (HM.out.step HS.out).at_ (k := k) (by rw [HM3.out]; exact hlt)
        have hor := vmax_at hx hy hmm
        have hk3 : (k : Int) < za.length := by rw [HLa.out]; omega
        have hk4 : (k : Int) < zb.length := by rw [HLb.out]; omega
        have hk5 : (k : Int) < (maxL za zb).length := by rw [HM3.out]; omega
        clear hx hy hmm
        by_cases hmx : m = x
        · subst hmx
          have hne : (m != m) = false := by simp
          clear hor
          go_wp2_with fail
          go_quiet (fail)
          go_wp2
          go_roundw
          case rel => exact ⟨k + 1, by omega, by go_num, Below.drewN HS.out _⟩
          case measure => simp [intOf]; omega
        · have hmy : m = y := by omega
          subst hmy
          have hne : (m != x) = true := by simp [hmx]
          clear hor hmx
          go_wp2_with fail
          go_quiet (fail)
          go_wp2
          go_roundw
          case rel => exact ⟨k + 1, by omega, by go_num, Below.drewN HS.out _⟩
          case measure => simp [intOf]; omega
      · have hge : ¬ ((k : Int) < (maxL za zb).length) := by rw [HM3.out]; omega
        replace HX := Lib.hid (HX.out.step HS.out)
        replace HY := Lib.hid (HY.out.step HS.out)
        replace HM := Lib.hid (HM.out.step HS.out)
        replace HN := Lib.hid (HN.out.step HS.out)
        replace HB := Lib.hid (Below.step HB.out HS.out)
        clear HS
        have hm33 : ((((maxL za zb).length : Nat) : Int) == 3) = true := by rw [HM3.out]; rfl
        go_wp2_with fail
        refine (vecFits_any _ _ _ _ _ _ _ _ za (maxL za zb) _ HX.out HM.out (by omega) hml3).mono ?_; rintro e w' ⟨rfl, rfl⟩
        rw [HFA.out]
        go_wp2_with fail
        refine (vecFits_any _ _ _ _ _ _ _ _ zb (maxL za zb) _ HY.out HM.out (by omega) hml3).mono ?_; rintro e w' ⟨rfl, rfl⟩
        rw [HFB.out]
        go_wp2_with fail
        refine (vecMax_any _ _ _ _ _ _ _ _ zb za _ HY.out HX.out (by omega) (by omega) (Nat.le_refl _) (Nat.le_refl _)).mono ?_; rintro e w6 ⟨A6, c6, rfl, hI, hb⟩
        have HS := Lib.hid (hb)
        replace HX := Lib.hid (HX.out.step HS.out)
        replace HY := Lib.hid (HY.out.step HS.out)
        replace HM := Lib.hid (HM.out.step HS.out)
        replace HN := Lib.hid (HN.out.step HS.out)
        replace HB := Lib.hid (Below.step HB.out HS.out)
        clear HS
        have HQ := Lib.hid (hI.mono (Nat.zero_le _) (Nat.le_refl _))
        clear hI hb
        rw [HC.out] at HQ ⊢
        go_wp2_with fail
        refine (sameInts_eq _ _ _ _ _ _ _ _ (maxL za zb) _ HQ.out HM.out (by omega)).mono ?_; rintro e w7 ⟨rfl, hd⟩
        have HS := Lib.hid (drawn_below hd)
        replace HX := Lib.hid (HX.out.step HS.out)
        replace HY := Lib.hid (HY.out.step HS.out)
        replace HM := Lib.hid (HM.out.step HS.out)
        replace HN := Lib.hid (HN.out.step HS.out)
        replace HQ := Lib.hid (HQ.out.step HS.out)
        replace HB := Lib.hid (Below.step HB.out HS.out)
        clear HS
        clear hd
        go_wp2_with fail
        go_ret
        exact ⟨by simp, HB.out⟩
end Go.Proofs.Ythnpekmohbpncaa
