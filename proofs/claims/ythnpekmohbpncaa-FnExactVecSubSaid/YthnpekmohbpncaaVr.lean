/- Contracts of the vectors' functions that only read, part two. No condition but on sizes. -/
import Derived.Test.YthnpekmohbpncaaVa
namespace Go.Proofs.Ythnpekmohbpncaa
open Go.RowKit
theorem bothValid_any (A B : Option Addr) (c d lo hi lo' hi' : Nat) (a b : List Int) (w : World) (hA : Ints w lo hi A c a) (hB : Ints w lo' hi' B d b) (ha : a.length ≤ 1048576) (hb : b.length ≤ 1048576) :
    Calls Try.prog 41 #[.slice A a.length c, .slice B b.length d] w fun e w' => e = .returned (.bool (vecB a && vecB b)) ∧ w = w' := by
  have HA := Lib.hid hA; clear hA
  have HB := Lib.hid hB; clear hB
  cases hva : vecB a
  · have HV := Lib.hid hva; clear hva
    go_enter Try.func41, Try.ntmps41
    go_wp2_with fail
    refine (vecValid_any _ _ _ _ a _ HA.out ha).mono ?_; rintro e w' ⟨rfl, rfl⟩
    rw [HV.out]
    go_wp2_with fail
    go_ret
    exact ⟨by simp, rfl⟩
  · have HV := Lib.hid hva; clear hva
    go_enter Try.func41, Try.ntmps41
    go_wp2_with fail
    refine (vecValid_any _ _ _ _ a _ HA.out ha).mono ?_; rintro e w' ⟨rfl, rfl⟩
    rw [HV.out]
    go_wp2_with fail
    refine (vecValid_any _ _ _ _ b _ HB.out hb).mono ?_; rintro e w' ⟨rfl, rfl⟩
    go_wp2_with fail
    go_ret
    exact ⟨by simp, rfl⟩
theorem fits_any (A B : Option Addr) (c d lo hi lo' hi' : Nat) (a b : List Int) (w : World) (hA : Ints w lo hi A c a) (hB : Ints w lo' hi' B d b) (ha : a.length = 3) (hb : b.length = 3) :
    Calls Try.prog 42 #[.slice A a.length c, .slice B b.length d] w fun e w' => e = .returned (.bool (fitsB a b)) ∧ w = w' := by
  have HA := Lib.hid hA; clear hA
  have HB := Lib.hid hB; clear hB
  have Ha := Lib.hid ha
  have Hb := Lib.hid hb
  rw [ha, hb]; clear ha hb
  go_enter Try.func42, Try.ntmps42
  go_wp2_with fail
  go_loop [9] (fun i => ∃ k : Nat, k ≤ 3 ∧ i = .int .i64 k ∧ ((List.zipWith (fun x y => decide (x ≤ y)) a b).take k).all id = true) (fun i => 3 - (intOf i).toNat)
  case atStart => exact ⟨0, by omega, rfl, by simp⟩
  case round =>
    obtain ⟨k, hk, rfl, hall⟩ := hrel
    have HL := Lib.hid hall; clear hall
    by_cases hlt : k < 3
    · obtain ⟨p, off, x, rfl, hx, hc, _, _, _⟩ := HA.out.at_ (k := k) (by have := Ha.out; omega)
      obtain ⟨p', off', y, rfl, hy, hc', _, _, _⟩ := HB.out.at_ (k := k) (by have := Hb.out; omega)
      have HX := Lib.hid hx; clear hx
      have HY := Lib.hid hy; clear hy
      by_cases hxy : y < x
      · have HH := Lib.hid (fits_false HX.out HY.out hxy)
        go_wp2
        go_ret
        exact ⟨by simp [HH.out], rfl⟩
      · have HH := Lib.hid (fits_true HX.out HY.out (by omega) HL.out)
        go_wp2
        go_round
        case rel => exact ⟨k + 1, by omega, by go_num, HH.out⟩
        case measure => simp [intOf]; omega
    · have HH : Hid (fitsB a b = true) := by
        have := HL.out
        rwa [List.take_of_length_le (by rw [List.length_zipWith, Ha.out, Hb.out]; omega)] at this
      go_wp2
      go_ret
      exact ⟨by simp [HH.out], rfl⟩
theorem vecFits_any (A B : Option Addr) (c d lo hi lo' hi' : Nat) (a b : List Int) (w : World) (hA : Ints w lo hi A c a) (hB : Ints w lo' hi' B d b) (ha : a.length ≤ 1048576) (hb : b.length ≤ 1048576) :
    Calls Try.prog 21 #[.slice A a.length c, .slice B b.length d] w fun e w' => e = .returned (.bool (vfitsB a b)) ∧ w = w' := by
  have HA := Lib.hid hA; clear hA
  have HB := Lib.hid hB; clear hB
  cases hv : (vecB a && vecB b)
  · have HV := Lib.hid hv; clear hv
    go_enter Try.func21, Try.ntmps21
    go_wp2_with fail
    refine (bothValid_any _ _ _ _ _ _ _ _ a b _ HA.out HB.out ha hb).mono ?_; rintro e w' ⟨rfl, rfl⟩
    rw [HV.out]
    go_wp2_with fail
    go_ret
    exact ⟨by simp [vfitsB, HV.out], rfl⟩
  · have HV := Lib.hid hv
    have HVa := Lib.hid (vec_len (Bool.and_eq_true_iff.1 hv).1)
    have HVb := Lib.hid (vec_len (Bool.and_eq_true_iff.1 hv).2)
    clear hv
    go_enter Try.func21, Try.ntmps21
    go_wp2_with fail
    refine (bothValid_any _ _ _ _ _ _ _ _ a b _ HA.out HB.out ha hb).mono ?_; rintro e w' ⟨rfl, rfl⟩
    rw [HV.out]
    go_wp2_with fail
    refine (fits_any _ _ _ _ _ _ _ _ a b _ HA.out HB.out HVa.out HVb.out).mono ?_; rintro e w' ⟨rfl, rfl⟩
    go_wp2_with fail
    go_ret
    exact ⟨by simp [vfitsB, HV.out], rfl⟩
theorem dot_any (A B : Option Addr) (c d lo hi lo' hi' : Nat) (a b : List Int) (w : World) (hA : Ints w lo hi A c a) (hB : Ints w lo' hi' B d b) (ha : vecB a = true) (hb : vecB b = true) :
    Calls Try.prog 44 #[.slice A a.length c, .slice B b.length d] w fun e w' => e = .returned (.int .i64 (dotL a b)) ∧ w = w' := by
  have HA := Lib.hid hA; clear hA
  have HB := Lib.hid hB; clear hB
  have HVa := Lib.hid ha
  have HVb := Lib.hid hb
  have Ha := Lib.hid (vec_len ha)
  have Hb := Lib.hid (vec_len hb)
  rw [vec_len ha, vec_len hb]; clear ha hb
  go_enter Try.func44, Try.ntmps44
  go_wp2_with fail
  go_loop [5, 10] (fun s i => ∃ k : Nat, ∃ z : Int, k ≤ 3 ∧ i = .int .i64 k ∧ s = .int .i64 z ∧ z = ((mulL a b).take k).sum ∧ 0 ≤ z ∧ z ≤ 400 * k) (fun _ i => 3 - (intOf i).toNat)
  case atStart => exact ⟨0, 0, by omega, rfl, rfl, by simp, by omega, by omega⟩
  case round =>
    obtain ⟨k, z, hk, rfl, rfl, hz, hz1, hz2⟩ := hrel
    have HZ := Lib.hid hz; clear hz
    by_cases hlt : k < 3
    · obtain ⟨p, off, x, rfl, hx, hc, _, _, _⟩ := HA.out.at_ (k := k) (by have := Ha.out; omega)
      obtain ⟨p', off', y, rfl, hy, hc', _, _, _⟩ := HB.out.at_ (k := k) (by have := Hb.out; omega)
      have hb0 := mul_bd (vec_at HVa.out hx) (vec_at HVb.out hy)
      have HS := Lib.hid (sum_snoc (take_succ_some (mulL_some hx hy)))
      have hw1 : IntKind.i64.wrap (x * y) = x * y := by rw [IntKind.wrap_i64]; omega
      have hw2 : IntKind.i64.wrap (z + x * y) = z + x * y := by rw [IntKind.wrap_i64]; omega
      clear hx hy
      obtain ⟨h0, h1⟩ := hb0
      go_wp2
      go_round
      case rel => exact ⟨k + 1, z + x * y, by omega, by go_num, by simp, by rw [HS.out, HZ.out], by omega, by omega⟩
      case measure => simp [intOf]; omega
    · have HH : Hid (dotL a b = z) := by
        have := HZ.out
        rw [List.take_of_length_le (by simp [mulL, Ha.out, Hb.out]; omega)] at this
        exact this.symm
      go_wp2
      go_ret
      exact ⟨by simp [HH.out], rfl⟩
/-- what both VecDot return -/
def vdot (a b : List Int) : Int := if vecB a && vecB b then dotL a b else -1
theorem vecDot_any (A B : Option Addr) (c d lo hi lo' hi' : Nat) (a b : List Int) (w : World) (hA : Ints w lo hi A c a) (hB : Ints w lo' hi' B d b) (ha : a.length ≤ 1048576) (hb : b.length ≤ 1048576) :
    Calls Try.prog 23 #[.slice A a.length c, .slice B b.length d] w fun e w' => e = .returned (.int .i64 (vdot a b)) ∧ w = w' := by
  have HA := Lib.hid hA; clear hA
  have HB := Lib.hid hB; clear hB
  cases hv : (vecB a && vecB b)
  · have HV := Lib.hid hv; clear hv
    go_enter Try.func23, Try.ntmps23
    go_wp2_with fail
    refine (bothValid_any _ _ _ _ _ _ _ _ a b _ HA.out HB.out ha hb).mono ?_; rintro e w' ⟨rfl, rfl⟩
    rw [HV.out]
    go_wp2_with fail
    go_ret
    exact ⟨by simp [vdot, HV.out], rfl⟩
  · have HV := Lib.hid hv
    have HVa := Lib.hid (Bool.and_eq_true_iff.1 hv).1
    have HVb := Lib.hid (Bool.and_eq_true_iff.1 hv).2
    clear hv
    go_enter Try.func23, Try.ntmps23
    go_wp2_with fail
    refine (bothValid_any _ _ _ _ _ _ _ _ a b _ HA.out HB.out ha hb).mono ?_; rintro e w' ⟨rfl, rfl⟩
    rw [HV.out]
    go_wp2_with fail
    refine (dot_any _ _ _ _ _ _ _ _ a b _ HA.out HB.out HVa.out HVb.out).mono ?_; rintro e w' ⟨rfl, rfl⟩
    go_wp2_with fail
    go_ret
    exact ⟨by simp [vdot, HV.out], rfl⟩
theorem vecDotS_any (A B : Option Addr) (c d lo hi lo' hi' : Nat) (a b : List Int) (w : World) (hA : Ints w lo hi A c a) (hB : Ints w lo' hi' B d b) (ha : a.length ≤ 1048576) (hb : b.length ≤ 1048576) :
    Calls Try.prog 22 #[.slice A a.length c, .slice B b.length d] w fun e w' => e = .returned (.int .i64 (vdot a b)) ∧ ∃ n, w' = w.drewN n := by
  have HA := Lib.hid hA; clear hA
  have HB := Lib.hid hB; clear hB
  cases hva : vecB a
  · have HV := Lib.hid hva; clear hva
    go_enter Try.func22, Try.ntmps22
    go_wp2_with fail
    refine (vecValidS_any _ _ _ _ a _ HA.out ha).mono ?_; rintro e w' ⟨rfl, rfl⟩
    rw [HV.out]
    go_wp2_with fail
    go_ret
    exact ⟨by simp [vdot, HV.out], 0, rfl⟩
  · have HV := Lib.hid hva; clear hva
    cases hvb : vecB b
    · have HW := Lib.hid hvb; clear hvb
      go_enter Try.func22, Try.ntmps22
      go_wp2_with fail
      refine (vecValidS_any _ _ _ _ a _ HA.out ha).mono ?_; rintro e w' ⟨rfl, rfl⟩
      rw [HV.out]
      go_wp2_with fail
      refine (vecValidS_any _ _ _ _ b _ HB.out hb).mono ?_; rintro e w' ⟨rfl, rfl⟩
      rw [HW.out]
      go_wp2_with fail
      go_ret
      exact ⟨by simp [vdot, HW.out], 0, rfl⟩
    · have HW := Lib.hid hvb; clear hvb
      go_enter Try.func22, Try.ntmps22
      go_wp2_with fail
      refine (vecValidS_any _ _ _ _ a _ HA.out ha).mono ?_; rintro e w' ⟨rfl, rfl⟩
      rw [HV.out]
      go_wp2_with fail
      refine (vecValidS_any _ _ _ _ b _ HB.out hb).mono ?_; rintro e w' ⟨rfl, rfl⟩
      rw [HW.out]
      go_wp2_with fail
      refine (l1Dot_any _ _ _ _ _ _ _ _ a b _ HA.out HB.out HV.out HW.out).mono ?_; rintro e w' ⟨rfl, n, rfl⟩
      go_wp2_with fail
      go_ret
      exact ⟨by simp [vdot, HV.out, HW.out], n, rfl⟩
end Go.Proofs.Ythnpekmohbpncaa
