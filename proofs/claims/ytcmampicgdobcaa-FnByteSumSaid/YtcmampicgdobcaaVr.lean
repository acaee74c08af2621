/- Contracts of the vectors' functions that only read, part two. No condition but on sizes. -/
import Derived.Test.YtcmampicgdobcaaVa
namespace Go.Proofs.Ytcmampicgdobcaa
open Go.RowKit
theorem bothValid_any (A B : Option Addr) (c d lo hi lo' hi' : Nat) (a b : List Int) (w : World) (hA : Ints w lo hi A c a) (hB : Ints w lo' hi' B d b) (ha : a.length ≤ 1048576) (hb : b.length ≤ 1048576) :
    Calls Try.prog 60 #[.slice A a.length c, .slice B b.length d] w fun e w' => e = .returned (.bool (vecB a && vecB b)) ∧ w = w' := by
  have HA := Lib.hid hA; clear hA
  have HB := Lib.hid hB; clear hB
  cases hva : vecB a
  · have HV := Lib.hid hva; clear hva
    go_enter Try.func60, Try.ntmps60
    go_wp2_with fail
    refine (vecValid_any _ _ _ _ a _ HA.out ha).mono ?_; rintro e w' ⟨rfl, rfl⟩
    rw [HV.out]
    go_wp2_with fail
    go_ret
    exact ⟨by simp, rfl⟩
  · have HV := Lib.hid hva; clear hva
    go_enter Try.func60, Try.ntmps60
    go_wp2_with fail
    refine (vecValid_any _ _ _ _ a _ HA.out ha).mono ?_; rintro e w' ⟨rfl, rfl⟩
    rw [HV.out]
    go_wp2_with fail
    refine (vecValid_any _ _ _ _ b _ HB.out hb).mono ?_; rintro e w' ⟨rfl, rfl⟩
    go_wp2_with fail
    go_ret
    exact ⟨by simp, rfl⟩
theorem fits_any (A B : Option Addr) (c d lo hi lo' hi' : Nat) (a b : List Int) (w : World) (hA : Ints w lo hi A c a) (hB : Ints w lo' hi' B d b) (ha : a.length = 3) (hb : b.length = 3) :
    Calls Try.prog 37 #[.slice A a.length c, .slice B b.length d] w fun e w' => e = .returned (.bool (fitsB a b)) ∧ w = w' := by
  have HA := Lib.hid hA; clear hA
  have HB := Lib.hid hB; clear hB
  have Ha := Lib.hid ha
  have Hb := Lib.hid hb
  rw [ha, hb]; clear ha hb
  go_enter Try.func37, Try.ntmps37
  go_wp2_with fail
  go_loop [9] (fun i => ∃ k : Nat, k ≤ 3 ∧ i = .int .i64 k ∧ ((List.zipWith (fun x y => decide (x ≤ y)) a b).take k).all id = true) (fun i => 3 - (intOf i).toNat)
  case atStart => exact ⟨0, by omega, rfl, by simp⟩
  case round =>
    obtain ⟨k, hk, rfl, hall⟩ := hrel
    have HL := Lib.hid hall; clear hall
    by_cases hlt : k < 3
    · obtain ⟨p, off, x, rfl, hx, hc, _, _, _⟩ := HA.out.at_ (k := k) (by have := Ha.out; omega)
      obtain ⟨p', off', y, rfl, hy, hc', _, _, _⟩ := HB.out.at_ (k := k) (by have := Hb.out; omega)
      have HX := Lib.hid hx; clear hx
      have HY := Lib.hid hy; clear hy
      by_cases hxy : y < x
      · have HH := Lib.hid (fits_false HX.out HY.out hxy)
        go_wp2
        go_ret
        exact ⟨by simp [HH.out], rfl⟩
      · have HH := Lib.hid (fits_true HX.out HY.out (by omega) HL.out)
        go_wp2
        go_round
        case rel => exact ⟨k + 1, by omega, by go_num, HH.out⟩
        case measure => simp [intOf]; omega
    · have HH : Hid (fitsB a b = true) := by
        have := HL.out
        rwa [List.take_of_length_le (by rw [List.length_zipWith, Ha.out, Hb.out]; omega)] at this
      go_wp2
      go_ret
      exact ⟨by simp [HH.out], rfl⟩
theorem vecFits_any (A B : Option Addr) (c d lo hi lo' hi' : Nat) (a b : List Int) (w : World) (hA : Ints w lo hi A c a) (hB : Ints w lo' hi' B d b) (ha : a.length ≤ 1048576) (hb : b.length ≤ 1048576) :
    Calls Try.prog 47 #[.slice A a.length c, .slice B b.length d] w fun e w' => e = .returned (.bool (vfitsB a b)) ∧ w = w' := by
  have HA := Lib.hid hA; clear hA
  have HB := Lib.hid hB; clear hB
  cases hv : (vecB a && vecB b)
  · have HV := Lib.hid hv; clear hv
    go_enter Try.func47, Try.ntmps47
    go_wp2_with fail
    refine (bothValid_any _ _ _ _ _ _ _ _ a b _ HA.out HB.out ha hb).mono ?_; rintro e w' ⟨rfl, rfl⟩
    rw [HV.out]
    go_wp2_with fail
    go_ret
    exact ⟨by simp [vfitsB, HV.out], rfl⟩
  · have HV := Lib.hid hv
    have HVa := Lib.hid (vec_len (Bool.and_eq_true_iff.1 hv).1)
    have HVb := Lib.hid (vec_len (Bool.and_eq_true_iff.1 hv).2)
    clear hv
    go_enter Try.func47, Try.ntmps47
    go_wp2_with fail
    refine (bothValid_any _ _ _ _ _ _ _ _ a b _ HA.out HB.out ha hb).mono ?_; rintro e w' ⟨rfl, rfl⟩
    rw [HV.out]
    go_wp2_with fail
    refine (fits_any _ _ _ _ _ _ _ _ a b _ HA.out HB.out HVa.out HVb.out).mono ?_; rintro e w' ⟨rfl, rfl⟩
    go_wp2_with fail
    go_ret
    exact ⟨by simp [vfitsB, HV.out], rfl⟩
/-- what both VecDot return -/
def vdot (a b : List Int) : Int := if vecB a && vecB b then dotL a b else -1
