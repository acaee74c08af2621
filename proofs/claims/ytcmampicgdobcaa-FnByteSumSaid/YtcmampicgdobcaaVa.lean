/- Contracts of the vectors' functions that only read: the reference's and the program's. No condition but on sizes. -/
import Derived.Test.YtcmampicgdobcaaProg
import Derived.Test.YtcmampicgdobcaaMem
namespace Go.Proofs.Ytcmampicgdobcaa
open Go.RowKit
theorem l6In_any (n lo hi : Int) (w : World) :
    Calls Try.prog 22 #[.int .i64 n, .int .i64 lo, .int .i64 hi] w fun e w' => e = .returned (.bool (inB n lo hi)) ∧ w = w' := by
  by_cases h1 : lo ≤ n
  · by_cases h2 : n ≤ hi
    all_goals
      go_enter Try.func22, Try.ntmps22
      go_wp2
      go_ret
      exact ⟨by simp [inB, h1, h2], rfl⟩
  · have HH := Lib.hid (inB_false (n := n) (lo := lo) (hi := hi) (by omega))
    go_enter Try.func22, Try.ntmps22
    go_wp2
    go_ret
    exact ⟨by simp [HH.out], rfl⟩
theorem within_any (n lo hi : Int) (w : World) :
    Calls Try.prog 19 #[.int .i64 n, .int .i64 lo, .int .i64 hi] w fun e w' => e = .returned (.bool (inB n lo hi)) ∧ w = w' := by
  by_cases h1 : lo ≤ n
  · by_cases h2 : n ≤ hi
    all_goals
      go_enter Try.func19, Try.ntmps19
      go_wp2
      go_ret
      exact ⟨by simp [inB, h1, h2], rfl⟩
  · have HH := Lib.hid (inB_false (n := n) (lo := lo) (hi := hi) (by omega))
    go_enter Try.func19, Try.ntmps19
    go_wp2
    go_ret
    exact ⟨by simp [HH.out], rfl⟩
theorem vecValidS_any (A : Option Addr) (c lo hi : Nat) (ys : List Int) (w : World) (hI : Ints w lo hi A c ys) (hl : ys.length ≤ 1048576) :
    Calls Try.prog 33 #[.slice A ys.length c] w fun e w' => e = .returned (.bool (vecB ys)) ∧ w = w' := by
  have HI := Lib.hid hI; clear hI
  go_enter Try.func33, Try.ntmps33
  go_wp2_with fail
  go_loop [3] (fun i => ∃ k : Nat, k ≤ ys.length ∧ i = .int .i64 k ∧ (ys.take k).all (fun n => inB n 0 20) = true) (fun i => ys.length - (intOf i).toNat)
  case atStart => exact ⟨0, by omega, rfl, by simp⟩
  case round =>
    obtain ⟨k, hk, rfl, hall⟩ := hrel
    have HA := Lib.hid hall; clear hall
    by_cases hlt : k < ys.length
    · obtain ⟨b, off, y, rfl, hy, hc, _, _, _⟩ := HI.out.at_ hlt
      have HY := Lib.hid hy; clear hy
      cases hin : inB y 0 20
      · have HH1 := Lib.hid (all_false_at (p := fun n => inB n 0 20) HY.out hin)
        go_wp2_with (go_at_call 22; refine (l6In_any _ _ _ _).mono ?_; rintro e w' ⟨rfl, rfl⟩)
        go_ret
        refine ⟨?_, rfl⟩
        simp [vecB, HH1.out]
      · have HH1 := Lib.hid (all_take_succ (p := fun n => inB n 0 20) HY.out hin HA.out)
        go_wp2_with (go_at_call 22; refine (l6In_any _ _ _ _).mono ?_; rintro e w' ⟨rfl, rfl⟩)
        go_round
        case rel => exact ⟨k + 1, by omega, by go_num, HH1.out⟩
        case measure => simp [intOf]; omega
    · have HH1 : Hid (ys.all (fun n => inB n 0 20) = true) := by
        have := HA.out
        rwa [show k = ys.length by omega, List.take_length] at this
      go_wp2
      go_ret
      refine ⟨?_, rfl⟩
      simp [vecB, HH1.out]
      exact nat_eq_lit _ 3
theorem fits_false {a b : List Int} {k : Nat} {x y : Int} (hx : a[k]? = some x) (hy : b[k]? = some y) (h : y < x) : fitsB a b = false := by
  unfold fitsB
  rw [List.all_eq_false]
  refine ⟨decide (x ≤ y), List.mem_of_getElem? (zip_some (f := fun x y => decide (x ≤ y)) hx hy), ?_⟩
  simp; omega
theorem fits_true {a b : List Int} {k : Nat} {x y : Int} (hx : a[k]? = some x) (hy : b[k]? = some y) (h : x ≤ y)
    (h0 : ((List.zipWith (fun x y => decide (x ≤ y)) a b).take k).all id = true) : ((List.zipWith (fun x y => decide (x ≤ y)) a b).take (k + 1)).all id = true := by
  rw [take_succ_some (zip_some (f := fun x y => decide (x ≤ y)) hx hy), List.all_append, h0]
  simp [h]
theorem l1Fits_any (A B : Option Addr) (c d lo hi lo' hi' : Nat) (a b : List Int) (w : World) (hA : Ints w lo hi A c a) (hB : Ints w lo' hi' B d b) (ha : a.length = 3) (hb : b.length = 3) :
    Calls Try.prog 62 #[.slice A a.length c, .slice B b.length d] w fun e w' => e = .returned (.bool (fitsB a b)) ∧ ∃ n, w' = w.drewN n := by
  have HA := Lib.hid hA; clear hA
  have HB := Lib.hid hB; clear hB
  have Ha := Lib.hid ha
  have Hb := Lib.hid hb
  rw [ha, hb]; clear ha hb
  go_enter Try.func62, Try.ntmps62
  go_wp2_with fail
  go_loopw [5] (fun i wr => ∃ k n : Nat, k ≤ 3 ∧ i = .int .i64 k ∧ wr = w.drewN n ∧ ((List.zipWith (fun x y => decide (x ≤ y)) a b).take k).all id = true) (fun i _ => 3 - (intOf i).toNat)
  case atStart => exact ⟨0, 0, by omega, rfl, rfl, by simp⟩
  case round =>
    obtain ⟨k, n, hk, rfl, rfl, hall⟩ := hrel
    have HL := Lib.hid hall; clear hall
    by_cases hlt : k < 3
    · obtain ⟨p, off, x, rfl, hx, hc, _, _, _⟩ := HA.out.at_ (k := k) (by have := Ha.out; omega)
      obtain ⟨p', off', y, rfl, hy, hc', _, _, _⟩ := HB.out.at_ (k := k) (by have := Hb.out; omega)
      have HX := Lib.hid hx; clear hx
      have HY := Lib.hid hy; clear hy
      by_cases hxy : y < x
      · have HH := Lib.hid (fits_false HX.out HY.out hxy)
        go_wp2_with fail
        go_quiet (fail)
        go_wp2
        go_ret
        exact ⟨by simp [HH.out], _, World.drewN_drewN _ _ _⟩
      · have HH := Lib.hid (fits_true HX.out HY.out (by omega) HL.out)
        go_wp2_with fail
        go_quiet (fail)
        go_wp2
        go_roundw
        case rel => exact ⟨k + 1, _, by omega, by go_num, rfl, HH.out⟩
        case measure => simp [intOf]; omega
    · have HH : Hid (fitsB a b = true) := by
        have := HL.out
        rwa [List.take_of_length_le (by rw [List.length_zipWith, Ha.out, Hb.out]; omega)] at this
      go_wp2
      go_ret
      exact ⟨by simp [HH.out], _, rfl⟩
theorem vecFitsS_any (A B : Option Addr) (c d lo hi lo' hi' : Nat) (a b : List Int) (w : World) (hA : Ints w lo hi A c a) (hB : Ints w lo' hi' B d b) (ha : a.length ≤ 1048576) (hb : b.length ≤ 1048576) :
    Calls Try.prog 66 #[.slice A a.length c, .slice B b.length d] w fun e w' => e = .returned (.bool (vfitsB a b)) ∧ ∃ n, w' = w.drewN n := by
  have HA := Lib.hid hA; clear hA
  have HB := Lib.hid hB; clear hB
  cases hva : vecB a
  · have HV := Lib.hid hva; clear hva
    go_enter Try.func66, Try.ntmps66
    go_wp2_with fail
    refine (vecValidS_any _ _ _ _ a _ HA.out ha).mono ?_; rintro e w' ⟨rfl, rfl⟩
    rw [HV.out]
    go_wp2_with fail
    go_ret
    exact ⟨by simp [vfitsB, HV.out], 0, rfl⟩
  · have HV := Lib.hid hva; clear hva
    cases hvb : vecB b
    · have HW := Lib.hid hvb; clear hvb
      go_enter Try.func66, Try.ntmps66
      go_wp2_with fail
      refine (vecValidS_any _ _ _ _ a _ HA.out ha).mono ?_; rintro e w' ⟨rfl, rfl⟩
      rw [HV.out]
      go_wp2_with fail
      refine (vecValidS_any _ _ _ _ b _ HB.out hb).mono ?_; rintro e w' ⟨rfl, rfl⟩
      rw [HW.out]
      go_wp2_with fail
      go_ret
      exact ⟨by simp [vfitsB, HW.out], 0, rfl⟩
    · have HW := Lib.hid hvb; clear hvb
      go_enter Try.func66, Try.ntmps66
      go_wp2_with fail
      refine (vecValidS_any _ _ _ _ a _ HA.out ha).mono ?_; rintro e w' ⟨rfl, rfl⟩
      rw [HV.out]
      go_wp2_with fail
      refine (vecValidS_any _ _ _ _ b _ HB.out hb).mono ?_; rintro e w' ⟨rfl, rfl⟩
      rw [HW.out]
      go_wp2_with fail
      refine (l1Fits_any _ _ _ _ _ _ _ _ a b _ HA.out HB.out (vec_len HV.out) (vec_len HW.out)).mono ?_; rintro e w' ⟨rfl, n, rfl⟩
      go_wp2_with fail
      go_ret
      exact ⟨by simp [vfitsB, HV.out, HW.out], n, rfl⟩
def dotL (a b : List Int) : Int := (mulL a b).sum
theorem mulL_some {a b : List Int} {k : Nat} {x y : Int} (hx : a[k]? = some x) (hy : b[k]? = some y) : (mulL a b)[k]? = some (x * y) := zip_some (f := fun x y => x * y) hx hy
theorem sum_snoc {l m : List Int} {z : Int} (h : m = l ++ [z]) : m.sum = l.sum + z := by rw [h]; simp [List.sum_append]
theorem mul_bd {x y : Int} (hx : 0 ≤ x ∧ x ≤ 20) (hy : 0 ≤ y ∧ y ≤ 20) : 0 ≤ x * y ∧ x * y ≤ 400 :=
  ⟨Int.mul_nonneg hx.1 hy.1, Int.le_trans (Int.mul_le_mul hx.2 hy.2 hy.1 (by omega)) (by omega)⟩
theorem valid1_any (y : Int) (w : World) : Calls Try.prog 59 #[.int .i64 y] w fun e w' => e = .returned (.bool (!(inB y 0 20))) ∧ w = w' := by
  go_enter Try.func59, Try.ntmps59
  go_wp2_with (go_at_call 19; refine (within_any _ _ _ _).mono ?_; rintro e w' ⟨rfl, rfl⟩)
  go_ret
  exact ⟨by simp, rfl⟩
theorem indexFunc_any (A : Option Addr) (c lo hi : Nat) (ys : List Int) (w : World) (hI : Ints w lo hi A c ys) (hl : ys.length ≤ 1048576) :
    Calls Try.prog 68 #[.slice A ys.length c, .func (.func 59) #[] #[]] w fun e w' => (∃ r : Int, e = .returned (.int .i64 r) ∧ decide (0 ≤ r) = !(ys.all (fun n => inB n 0 20))) ∧ w = w' := by
  have HI := Lib.hid hI; clear hI
  go_enter Try.func68, Try.ntmps68
  go_wp2_with fail
  go_loop [8] (fun i => ∃ k : Nat, k ≤ ys.length ∧ i = .int .i64 k ∧ (ys.take k).all (fun n => inB n 0 20) = true) (fun i => ys.length - (intOf i).toNat)
  case atStart => exact ⟨0, by omega, rfl, by simp⟩
  case round =>
    obtain ⟨k, hk, rfl, hall⟩ := hrel
    have HL := Lib.hid hall; clear hall
    by_cases hlt : k < ys.length
    · obtain ⟨b, off, y, rfl, hy, hc, _, _, _⟩ := HI.out.at_ hlt
      have HY := Lib.hid hy; clear hy
      cases hin : inB y 0 20
      · have HH1 := Lib.hid (all_false_at (p := fun n => inB n 0 20) HY.out hin)
        go_wp2_with (go_at_call 59; refine (valid1_any _ _).mono ?_; rintro e w' ⟨rfl, rfl⟩)
        go_ret
        refine ⟨⟨k, by simp, ?_⟩, rfl⟩
        simp [HH1.out]
      · have HH1 := Lib.hid (all_take_succ (p := fun n => inB n 0 20) HY.out hin HL.out)
        go_wp2_with (go_at_call 59; refine (valid1_any _ _).mono ?_; rintro e w' ⟨rfl, rfl⟩)
        go_round
        case rel => exact ⟨k + 1, by omega, by go_num, HH1.out⟩
        case measure => simp [intOf]; omega
    · have HH1 : Hid (ys.all (fun n => inB n 0 20) = true) := by
        have := HL.out
        rwa [show k = ys.length by omega, List.take_length] at this
      go_wp2
      go_ret
      refine ⟨⟨-1, by simp, ?_⟩, rfl⟩
      simp [HH1.out]
theorem containsFunc_any (A : Option Addr) (c lo hi : Nat) (ys : List Int) (w : World) (hI : Ints w lo hi A c ys) (hl : ys.length ≤ 1048576) :
    Calls Try.prog 58 #[.slice A ys.length c, .func (.func 59) #[] #[]] w fun e w' => e = .returned (.bool (!(ys.all (fun n => inB n 0 20)))) ∧ w = w' := by
  have HI := Lib.hid hI; clear hI
  go_enter Try.func58, Try.ntmps58
  go_wp2_with fail
  refine (indexFunc_any _ _ _ _ ys _ HI.out hl).mono ?_; rintro e w' ⟨⟨r, rfl, hr⟩, rfl⟩
  have HR := Lib.hid hr; clear hr
  go_wp2_with fail
  go_ret
  refine ⟨?_, rfl⟩
  rw [← HR.out]; rfl
theorem valid_any (A : Option Addr) (c lo hi : Nat) (ys : List Int) (w : World) (hI : Ints w lo hi A c ys) (hl : ys.length ≤ 1048576) :
    Calls Try.prog 45 #[.slice A ys.length c] w fun e w' => e = .returned (.bool (vecB ys)) ∧ w = w' := by
  have HI := Lib.hid hI; clear hI
  by_cases h3 : ys.length = 3
  · have H3 := Lib.hid h3
    have h3' : ((ys.length : Int) == 3) = true := by simp; omega
    clear h3
    go_enter Try.func45, Try.ntmps45
    go_wp2_with fail
    refine (containsFunc_any _ _ _ _ ys _ HI.out hl).mono ?_; rintro e w' ⟨rfl, rfl⟩
    go_wp2_with fail
    go_ret
    refine ⟨?_, rfl⟩
    simp [vecB, H3.out]
  · have H3 := Lib.hid h3
    have h3' : ((ys.length : Int) == 3) = false := by simp; omega
    clear h3
    go_enter Try.func45, Try.ntmps45
    go_wp2_with fail
    go_ret
    refine ⟨?_, rfl⟩
    simp [vecB, H3.out]
theorem vecValid_any (A : Option Addr) (c lo hi : Nat) (ys : List Int) (w : World) (hI : Ints w lo hi A c ys) (hl : ys.length ≤ 1048576) :
    Calls Try.prog 31 #[.slice A ys.length c] w fun e w' => e = .returned (.bool (vecB ys)) ∧ w = w' := by
  have HI := Lib.hid hI; clear hI
  go_enter Try.func31, Try.ntmps31
  go_wp2_with fail
  refine (valid_any _ _ _ _ ys _ HI.out hl).mono ?_; rintro e w' ⟨rfl, rfl⟩
  go_wp2_with fail
  go_ret
  exact ⟨rfl, rfl⟩
end Go.Proofs.Ytcmampicgdobcaa
