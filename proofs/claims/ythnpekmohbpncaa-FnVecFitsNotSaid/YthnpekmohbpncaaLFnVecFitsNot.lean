/- The walk of one statement: by the contracts of what it calls it returns true and changes nothing that was there. No condition. -/
import Derived.Test.YthnpekmohbpncaaDd
import Derived.Test.YthnpekmohbpncaaPv
namespace Go.Proofs.Ythnpekmohbpncaa
open Go.RowKit
theorem FnVecFitsNot_walk (A : Option Addr) (n c : Nat) (w : World) (hA : BytesR w w.heap.size A n) (hc : n ≤ c) (hm : c ≤ maxLen) :
    Calls Try.prog 7 #[.slice A n c] w fun e w' => e = .returned (.bool true) ∧ Below w.heap.size w w' := by
  have HA := Lib.hid hA; clear hA
  by_cases hn : 1048576 < n
  · go_enter Try.func7, Try.ntmps7
    go_wp2
    go_ret
    exact ⟨by simp, Below.refl _ _⟩
  have hnd : ¬ ((1048576 : Int) < (n : Int)) := by omega
  go_enter Try.func7, Try.ntmps7
  have HB := Lib.hid (Below.refl w.heap.size w)
  go_wp2_with fail
  refine (DrawVecFits_any A n c w HA.out hc hm).mono ?_; rintro e w1 ⟨A1, c1, za, B1, d1, zb, rfl, h1, hlza, hzza, h4, hlzb, hzzb, h7⟩
  have HS := Lib.hid (h7)
  replace HB := Lib.hid (Below.step HB.out HS.out)
  clear HS
  have HX := Lib.hid (h1.mono (Nat.zero_le _) (Nat.le_refl _))
  have HY := Lib.hid (h4.mono (Nat.zero_le _) (Nat.le_refl _))
  clear h1 h4 h7 hzza hzzb
  go_wp2_with fail
  refine (vecFits_any _ _ _ _ _ _ _ _ za zb _ HX.out HY.out (by omega) (by omega)).mono ?_; rintro e w' ⟨rfl, rfl⟩
  go_wp2_with fail
  refine (vecFitsS_any _ _ _ _ _ _ _ _ za zb _ HX.out HY.out (by omega) (by omega)).mono ?_; rintro e w2 ⟨rfl, hd⟩
  have HS := Lib.hid (drawn_below hd)
  replace HX := Lib.hid (HX.out.step HS.out)
  replace HY := Lib.hid (HY.out.step HS.out)
  replace HB := Lib.hid (Below.step HB.out HS.out)
  clear HS
  clear hd
  cases hva : vecB za
  · have HV := Lib.hid hva; clear hva
    go_wp2_with fail
    refine (vecValidS_any _ _ _ _ za _ HX.out (by omega)).mono ?_; rintro e w' ⟨rfl, rfl⟩
    rw [HV.out]
    go_wp2_with fail
    go_ret
    exact ⟨by simp, HB.out⟩
  · have HVA := Lib.hid hva; clear hva
    cases hvb : vecB zb
    · have HV := Lib.hid hvb; clear hvb
      go_wp2_with fail
      refine (vecValidS_any _ _ _ _ za _ HX.out (by omega)).mono ?_; rintro e w' ⟨rfl, rfl⟩
      rw [HVA.out]
      go_wp2_with fail
      refine (vecValidS_any _ _ _ _ zb _ HY.out (by omega)).mono ?_; rintro e w' ⟨rfl, rfl⟩
      rw [HV.out]
      go_wp2_with fail
      go_ret
      exact ⟨by simp, HB.out⟩
    · have HVB := Lib.hid hvb; clear hvb
      go_wp2_with fail
      refine (vecValidS_any _ _ _ _ za _ HX.out (by omega)).mono ?_; rintro e w' ⟨rfl, rfl⟩
      rw [HVA.out]
      go_wp2_with fail
      refine (vecValidS_any _ _ _ _ zb _ HY.out (by omega)).mono ?_; rintro e w' ⟨rfl, rfl⟩
      rw [HVB.out]
      have HLa := Lib.hid (vec_len HVA.out)
      have HLb := Lib.hid (vec_len HVB.out)
      have HVV : Hid (vfitsB za zb = fitsB za zb) := Lib.hid (by simp [vfitsB, HVA.out, HVB.out])
      go_wp2_with fail
      go_loopw [7, 8] (fun v i wr => ∃ k : Nat, ∃ t : Bool, k ≤ 3 ∧ i = .int .i64 k ∧ v = .bool t ∧ t = (!((List.zipWith (fun x y => decide (x ≤ y)) za zb).take k).all id) ∧ Below w2.heap.size w2 wr) (fun _ i _ => 3 - (intOf i).toNat)
      case atStart => exact ⟨0, false, by omega, rfl, rfl, by simp, Below.refl _ _⟩
      case round =>
        obtain ⟨k, t, hk, rfl, rfl, ht, hbl⟩ := hrel
        have HS := Lib.hid hbl; clear hbl
        have HT := Lib.hid ht; clear ht
        by_cases hlt : k < 3
        · obtain ⟨p, off, x, rfl, hx, hc, _, _, _⟩ := (HX.out.step HS.out).at_ (k := k) (by rw [HLa.out]; exact hlt)
          obtain ⟨p', off', y, rfl, hy, hc', _, _, _⟩ := (HY.out.step HS.out).at_ (k := k) (by rw [HLb.out]; exact hlt)
          have HN := Lib.hid (fits_next hx hy)
          have hk3 : (k : Int) < za.length := by rw [HLa.out]; omega
          have hk4 : (k : Int) < zb.length := by rw [HLb.out]; omega
          clear hx hy
          cases t
          · go_wp2_with fail
            go_quiet (fail)
            go_wp2
            go_roundw
            case rel => exact ⟨k + 1, decide (y < x), by omega, by go_num, rfl, by rw [HN.out, ← HT.out]; simp, Below.drewN HS.out _⟩
            case measure => simp [intOf]; omega
          · go_wp2_with fail
            go_quiet (fail)
            go_wp2
            go_roundw
            case rel => exact ⟨k + 1, true, by omega, by go_num, rfl, by rw [HN.out, ← HT.out]; simp, Below.drewN HS.out _⟩
            case measure => simp [intOf]; omega
        · have hge : ¬ ((k : Int) < 3) := by omega
          have HE : Hid (t = !(fitsB za zb)) := Lib.hid (by
            have := HT.out
            rwa [List.take_of_length_le (by rw [List.length_zipWith, HLa.out, HLb.out]; omega)] at this)
          rw [HVV.out]
          go_wp2
          go_ret
          exact ⟨by simp [HE.out], Below.step HB.out HS.out⟩
end Go.Proofs.Ythnpekmohbpncaa
