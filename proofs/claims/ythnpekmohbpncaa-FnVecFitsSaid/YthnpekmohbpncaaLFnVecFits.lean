/- The walk of one statement: by the contracts of what it calls it returns true and changes nothing that was there. No condition. -/
import Derived.Test.YthnpekmohbpncaaDd
import Derived.Test.YthnpekmohbpncaaPv
namespace Go.Proofs.Ythnpekmohbpncaa
open Go.RowKit
theorem FnVecFits_walk (A : Option Addr) (n c : Nat) (w : World) (hA : BytesR w w.heap.size A n) (hc : n ≤ c) (hm : c ≤ maxLen) :
    Calls Try.prog 11 #[.slice A n c] w fun e w' => e = .returned (.bool true) ∧ Below w.heap.size w w' := by
  have HA := Lib.hid hA; clear hA
  by_cases hn : 1048576 < n
  · go_enter Try.func11, Try.ntmps11
    go_wp2
    go_ret
    exact ⟨by simp, Below.refl _ _⟩
  have hnd : ¬ ((1048576 : Int) < (n : Int)) := by omega
  go_enter Try.func11, Try.ntmps11
  have HB := Lib.hid (Below.refl w.heap.size w)
  go_wp2_with fail
  refine (DrawVecFits_any A n c w HA.out hc hm).mono ?_; rintro e w1 ⟨A1, c1, za, B1, d1, zb, rfl, h1, hlza, hzza, h4, hlzb, hzzb, h7⟩
  have HS := Lib.hid (h7)
  replace HB := Lib.hid (Below.step HB.out HS.out)
  clear HS
  have HX := Lib.hid (h1.mono (Nat.zero_le _) (Nat.le_refl _))
  have HY := Lib.hid (h4.mono (Nat.zero_le _) (Nat.le_refl _))
  clear h1 h4 h7 hzza hzzb
  go_wp2_with fail
  refine (vecFits_any _ _ _ _ _ _ _ _ za zb _ HX.out HY.out (by omega) (by omega)).mono ?_; rintro e w' ⟨rfl, rfl⟩
  go_wp2_with fail
  refine (vecFitsS_any _ _ _ _ _ _ _ _ za zb _ HX.out HY.out (by omega) (by omega)).mono ?_; rintro e w2 ⟨rfl, hd⟩
  have HS := Lib.hid (drawn_below hd)
  replace HX := Lib.hid (HX.out.step HS.out)
  replace HY := Lib.hid (HY.out.step HS.out)
  replace HB := Lib.hid (Below.step HB.out HS.out)
  clear HS
  clear hd
  cases hv : vfitsB za zb
  · go_wp2_with fail
    go_ret
    exact ⟨by simp, HB.out⟩
  · have HV := Lib.hid hv
    obtain ⟨hva, hvb, hvf⟩ := vfits_parts hv
    have HVA := Lib.hid hva
    have HVB := Lib.hid hvb
    have HVF := Lib.hid hvf
    have HLa := Lib.hid (vec_len hva)
    have HLb := Lib.hid (vec_len hvb)
    clear hv hva hvb hvf
    go_wp2_with fail
    go_loopw [7] (fun i wr => ∃ k : Nat, k ≤ 3 ∧ i = .int .i64 k ∧ Below w2.heap.size w2 wr) (fun i _ => 3 - (intOf i).toNat)
    case atStart => exact ⟨0, by omega, rfl, Below.refl _ _⟩
    case round =>
      obtain ⟨k, hk, rfl, hbl⟩ := hrel
      have HS := Lib.hid hbl; clear hbl
      by_cases hlt : k < 3
      · obtain ⟨p, off, x, rfl, hx, hc, _, _, _⟩ := (HX.out.step HS.out).at_ (k := k) (by rw [HLa.out]; exact hlt)
        obtain ⟨p', off', y, rfl, hy, hc', _, _, _⟩ := (HY.out.step HS.out).at_ (k := k) (by rw [HLb.out]; exact hlt)
        have hxy := fits_at HVF.out hx hy
        have hxd : ¬ (y < x) := by omega
        have hk3 : (k : Int) < za.length := by rw [HLa.out]; omega
        have hk4 : (k : Int) < zb.length := by rw [HLb.out]; omega
        clear hx hy hxy
        go_wp2_with fail
        go_quiet (fail)
        go_wp2
        go_roundw
        case rel => exact ⟨k + 1, by omega, by go_num, Below.drewN HS.out _⟩
        case measure => simp [intOf]; omega
      · have hge : ¬ ((k : Int) < 3) := by omega
        replace HX := Lib.hid (HX.out.step HS.out)
        replace HY := Lib.hid (HY.out.step HS.out)
        replace HB := Lib.hid (Below.step HB.out HS.out)
        clear HS
        go_wp2_with fail
        refine (vecFits_any _ _ _ _ _ _ _ _ za za _ HX.out HX.out (by omega) (by omega)).mono ?_; rintro e w' ⟨rfl, rfl⟩
        rw [vfits_refl HVA.out]
        go_wp2_with fail
        refine (vecFits_any _ _ _ _ _ _ _ _ zb zb _ HY.out HY.out (by omega) (by omega)).mono ?_; rintro e w' ⟨rfl, rfl⟩
        rw [vfits_refl HVB.out]
        go_wp2_with fail
        refine (vecFits_any _ _ _ _ _ _ _ _ zb za _ HY.out HX.out (by omega) (by omega)).mono ?_; rintro e w' ⟨rfl, rfl⟩
        cases hf : vfitsB zb za
        · go_wp2_with fail
          go_ret
          exact ⟨by simp, HB.out⟩
        · obtain rfl := vfits_anti HV.out hf
          go_wp2_with fail
          refine (sameInts_eq _ _ _ _ _ _ _ _ za _ HX.out HY.out (by omega)).mono ?_; rintro e w4 ⟨rfl, hd⟩
          have HS := Lib.hid (drawn_below hd)
          replace HX := Lib.hid (HX.out.step HS.out)
          replace HY := Lib.hid (HY.out.step HS.out)
          replace HB := Lib.hid (Below.step HB.out HS.out)
          clear HS
          clear hd
          go_wp2_with fail
          go_ret
          exact ⟨by simp, HB.out⟩
end Go.Proofs.Ythnpekmohbpncaa
