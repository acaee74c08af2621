/- Contracts of ClusterSum, the reference's and the program's. No condition but on sizes. -/
import Derived.Test.YtcmampicgdobcaaVa
namespace Go.Proofs.Ytcmampicgdobcaa
open Go.RowKit
/-- the sum of bytes -/
def hashL (ys : List Int) : Int := ys.foldl (fun s b => (31 * s + b) % 251) 1
theorem hashL_snoc {l m : List Int} {z : Int} (h : m = l ++ [z]) : hashL m = (31 * hashL l + z) % 251 := by rw [h]; simp [hashL]
/-- what both ClusterSum return -/
def csum (ys : List Int) : Int := if (ys.all (fun n => inB n 0 255) && decide (ys.length ≤ 200)) then hashL ys else -1
theorem clusterSumS_any (A : Option Addr) (c lo hi : Nat) (ys : List Int) (w : World) (hI : Ints w lo hi A c ys) (hl : ys.length ≤ 1048576) :
    Calls Try.prog 14 #[.slice A ys.length c] w fun e w' => e = .returned (.int .i64 (csum ys)) ∧ w = w' := by
  have HI := Lib.hid hI; clear hI
  go_enter Try.func14, Try.ntmps14
  go_wp2_with fail
  go_loop [3, 4] (fun s i => ∃ k : Nat, ∃ z : Int, k ≤ ys.length ∧ i = .int .i64 k ∧ s = .int .i64 z ∧ z = hashL (ys.take k) ∧ 0 ≤ z ∧ z ≤ 250 ∧ (ys.take k).all (fun n => inB n 0 255) = true) (fun _ i => ys.length - (intOf i).toNat)
  case atStart => exact ⟨0, 1, by omega, rfl, rfl, by simp [hashL], by omega, by omega, by simp⟩
  case round =>
    obtain ⟨k, z, hk, rfl, rfl, hz, hz0, hz1, hall⟩ := hrel
    have HA := Lib.hid hall; clear hall
    have HZ := Lib.hid hz; clear hz
    by_cases hlt : k < ys.length
    · obtain ⟨b, off, y, rfl, hy, hc, _, _, _⟩ := HI.out.at_ hlt
      have HY := Lib.hid hy; clear hy
      cases hin : inB y 0 255
      · have HH1 := Lib.hid (all_false_at (p := fun n => inB n 0 255) HY.out hin)
        go_wp2_with (go_at_call 22; refine (l6In_any _ _ _ _).mono ?_; rintro e w' ⟨rfl, rfl⟩)
        go_ret
        refine ⟨?_, rfl⟩
        simp [csum, HH1.out]
      · have HH1 := Lib.hid (all_take_succ (p := fun n => inB n 0 255) HY.out hin HA.out)
        obtain ⟨hy0, hy1⟩ := inB_of hin
        have HS := Lib.hid (hashL_snoc (take_succ_some HY.out))
        have hm0 : 0 ≤ (31 * z + y) % 251 := by omega
        have hm1 : (31 * z + y) % 251 ≤ 250 := by omega
        have HM0 := Lib.hid hm0; clear hm0
        have HM1 := Lib.hid hm1; clear hm1
        go_wp2_with (go_at_call 22; refine (l6In_any _ _ _ _).mono ?_; rintro e w' ⟨rfl, rfl⟩)
        go_round
        case rel => exact ⟨k + 1, _, by omega, by go_num, rfl, by rw [HS.out, HZ.out], HM0.out, HM1.out, HH1.out⟩
        case measure => simp [intOf]; omega
    · have hke : k = ys.length := by omega
      have HH1 : Hid (ys.all (fun n => inB n 0 255) = true) := by
        have := HA.out
        rwa [hke, List.take_length] at this
      have HH2 : Hid (z = hashL ys) := by
        have := HZ.out
        rwa [hke, List.take_length] at this
      clear hke
      by_cases hl2 : 200 < ys.length
      · have HL2 := Lib.hid hl2
        go_wp2
        go_ret
        refine ⟨?_, rfl⟩
        have : ¬ ys.length ≤ 200 := by have := HL2.out; omega
        simp [csum, this]
      · have HL2 := Lib.hid hl2
        go_wp2
        go_ret
        refine ⟨?_, rfl⟩
        have : ys.length ≤ 200 := by have := HL2.out; omega
        simp only [csum, HH1.out, this, ← HH2.out]
        simp
theorem clusterSum_any (A : Option Addr) (c lo hi : Nat) (ys : List Int) (w : World) (hI : Ints w lo hi A c ys) (hl : ys.length ≤ 1048576) :
    Calls Try.prog 13 #[.slice A ys.length c] w fun e w' => e = .returned (.int .i64 (csum ys)) ∧ w = w' := by
  have HI := Lib.hid hI; clear hI
  by_cases hl2 : 200 < ys.length
  · have HL2 := Lib.hid hl2
    go_enter Try.func13, Try.ntmps13
    go_wp2
    go_ret
    refine ⟨?_, rfl⟩
    have : ¬ ys.length ≤ 200 := by have := HL2.out; omega
    simp [csum, this]
  · go_enter Try.func13, Try.ntmps13
    go_wp2_with fail
    go_loop [3, 11] (fun s i => ∃ k : Nat, ∃ z : Int, k ≤ ys.length ∧ i = .int .i64 k ∧ s = .int .i64 z ∧ z = hashL (ys.take k) ∧ 0 ≤ z ∧ z ≤ 250 ∧ (ys.take k).all (fun n => inB n 0 255) = true) (fun _ i => ys.length - (intOf i).toNat)
    case atStart => exact ⟨0, 1, by omega, rfl, rfl, by simp [hashL], by omega, by omega, by simp⟩
    case round =>
      obtain ⟨k, z, hk, rfl, rfl, hz, hz0, hz1, hall⟩ := hrel
      have HA := Lib.hid hall; clear hall
      have HZ := Lib.hid hz; clear hz
      by_cases hlt : k < ys.length
      · obtain ⟨b, off, y, rfl, hy, hc, _, _, _⟩ := HI.out.at_ hlt
        have HY := Lib.hid hy; clear hy
        cases hin : inB y 0 255
        · have HH1 := Lib.hid (all_false_at (p := fun n => inB n 0 255) HY.out hin)
          go_wp2_with (go_at_call 19; refine (within_any _ _ _ _).mono ?_; rintro e w' ⟨rfl, rfl⟩)
          go_ret
          refine ⟨?_, rfl⟩
          simp [csum, HH1.out]
        · have HH1 := Lib.hid (all_take_succ (p := fun n => inB n 0 255) HY.out hin HA.out)
          obtain ⟨hy0, hy1⟩ := inB_of hin
          have HS := Lib.hid (hashL_snoc (take_succ_some HY.out))
          have hm0 : 0 ≤ (31 * z + y) % 251 := by omega
          have hm1 : (31 * z + y) % 251 ≤ 250 := by omega
          have HM0 := Lib.hid hm0; clear hm0
          have HM1 := Lib.hid hm1; clear hm1
          go_wp2_with (go_at_call 19; refine (within_any _ _ _ _).mono ?_; rintro e w' ⟨rfl, rfl⟩)
          go_round
          case rel => exact ⟨k + 1, _, by omega, by go_num, rfl, by rw [HS.out, HZ.out], HM0.out, HM1.out, HH1.out⟩
          case measure => simp [intOf]; omega
      · have hke : k = ys.length := by omega
        have HH1 : Hid (ys.all (fun n => inB n 0 255) = true) := by
          have := HA.out
          rwa [hke, List.take_length] at this
        have HH2 : Hid (z = hashL ys) := by
          have := HZ.out
          rwa [hke, List.take_length] at this
        clear hke
        have HL2 := Lib.hid hl2
        go_wp2
        go_ret
        refine ⟨?_, rfl⟩
        have : ys.length ≤ 200 := by have := HL2.out; omega
        simp only [csum, HH1.out, this, ← HH2.out]
        simp
end Go.Proofs.Ytcmampicgdobcaa
