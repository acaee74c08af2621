/- The walk of one statement: by the contracts of what it calls it returns true and changes nothing that was there. No condition. -/
import Derived.Test.YthnpekmohbpncaaDd
import Derived.Test.YthnpekmohbpncaaPv
namespace Go.Proofs.Ythnpekmohbpncaa
open Go.RowKit
theorem FnVecDot_walk (A : Option Addr) (n c : Nat) (w : World) (hA : BytesR w w.heap.size A n) (hc : n ≤ c) (hm : c ≤ maxLen) :
    Calls Try.prog 9 #[.slice A n c] w fun e w' => e = .returned (.bool true) ∧ Below w.heap.size w w' := by
  have HA := Lib.hid hA; clear hA
  by_cases hn : 1048576 < n
  · go_enter Try.func9, Try.ntmps9
    go_wp2
    go_ret
    exact ⟨by simp, Below.refl _ _⟩
  have hnd : ¬ ((1048576 : Int) < (n : Int)) := by omega
  go_enter Try.func9, Try.ntmps9
  have HB := Lib.hid (Below.refl w.heap.size w)
  go_wp2_with fail
  refine (DrawVecDot_any A n c w HA.out hc hm).mono ?_; rintro e w1 ⟨A1, c1, za, B1, d1, zb, rfl, h1, hlza, hzza, h4, hlzb, hzzb, h7⟩
  have HS := Lib.hid (h7)
  replace HB := Lib.hid (Below.step HB.out HS.out)
  clear HS
  have HX := Lib.hid (h1.mono (Nat.zero_le _) (Nat.le_refl _))
  have HY := Lib.hid (h4.mono (Nat.zero_le _) (Nat.le_refl _))
  clear h1 h4 h7 hzza hzzb
  go_wp2_with fail
  refine (vecDot_any _ _ _ _ _ _ _ _ za zb _ HX.out HY.out (by omega) (by omega)).mono ?_; rintro e w' ⟨rfl, rfl⟩
  go_wp2_with fail
  refine (vecDotS_any _ _ _ _ _ _ _ _ za zb _ HX.out HY.out (by omega) (by omega)).mono ?_; rintro e w2 ⟨rfl, hd⟩
  have HS := Lib.hid (drawn_below hd)
  replace HX := Lib.hid (HX.out.step HS.out)
  replace HY := Lib.hid (HY.out.step HS.out)
  replace HB := Lib.hid (Below.step HB.out HS.out)
  clear HS
  clear hd
  cases hv : (vecB za && vecB zb)
  · rw [vdot_no hv]
    go_wp2_with fail
    go_ret
    exact ⟨by simp, HB.out⟩
  · have HV := Lib.hid hv
    obtain ⟨hv0, hv1⟩ := vdot_nonneg hv
    have hva := (Bool.and_eq_true_iff.1 hv).1
    have HC := Lib.hid (vdot_comm za zb)
    have HZ := Lib.hid (vdot_zero hva)
    have HAA := Lib.hid (vdot_nonneg (a := za) (b := za) (by rw [hva]; rfl)).1
    clear hv hva
    have hvd : ¬ (vdot za zb < 0) := by omega
    go_wp2_with fail
    refine (vecDot_any _ _ _ _ _ _ _ _ zb za _ HY.out HX.out (by omega) (by omega)).mono ?_; rintro e w' ⟨rfl, rfl⟩
    rw [HC.out]
    go_wp2_with fail
    obtain ⟨w3, hw⟩ : ∃ W, W = World.alloc w2 (.cells #[.int .i64 (0), .int .i64 (0), .int .i64 (0)] 3) := ⟨_, rfl⟩
    rw [← hw]
    have HL : Hid (Ints w3 0 w3.heap.size (some ⟨w2.heap.size, 0, none⟩) 3 [0, 0, 0]) := Lib.hid (by rw [hw]; exact ints_lit3 w2 _ _ _ _)
    have HS : Hid (Below w2.heap.size w2 w3) := Lib.hid (by rw [hw]; exact (Below.refl _ _).alloc (Nat.le_refl _) _)
    clear hw
    replace HX := Lib.hid (HX.out.step HS.out)
    replace HY := Lib.hid (HY.out.step HS.out)
    replace HB := Lib.hid (Below.step HB.out HS.out)
    clear HS
    go_wp2_with fail
    refine (vecDot_any _ _ _ _ _ _ _ _ za [0, 0, 0] _ HX.out HL.out (by omega) (by simp)).mono ?_; rintro e w' ⟨rfl, rfl⟩
    rw [HZ.out]
    have haa := HAA.out
    go_wp2_with fail
    refine (vecDot_any _ _ _ _ _ _ _ _ za za _ HX.out HX.out (by omega) (by omega)).mono ?_; rintro e w' ⟨rfl, rfl⟩
    go_wp2_with fail
    go_ret
    exact ⟨by simp, HB.out⟩
end Go.Proofs.Ythnpekmohbpncaa
