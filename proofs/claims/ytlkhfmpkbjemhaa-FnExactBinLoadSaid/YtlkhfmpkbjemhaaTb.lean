/- Tasks and their order: contracts of total, l4Sum, compare, l4Before, TaskBefore. No condition but on sizes. -/
import Derived.Test.YtlkhfmpkbjemhaaPr
import Derived.Test.YtlkhfmpkbjemhaaVr
namespace Go.Proofs.Ytlkhfmpkbjemhaa
open Go.RowKit
theorem sum_bd {ys : List Int} {M : Int} (_hM : 0 ≤ M) (h : ∀ y, y ∈ ys → -M ≤ y ∧ y ≤ M) : -(M * ys.length) ≤ ys.sum ∧ ys.sum ≤ M * ys.length := by
  induction ys with
  | nil => simp
  | cons y r ih =>
    have h1 := h y (List.mem_cons_self ..)
    have h2 := ih (fun z hz => h z (List.mem_cons_of_mem _ hz))
    simp only [List.sum_cons, List.length_cons]
    rw [show M * ((r.length + 1 : Nat) : Int) = M * r.length + M by rw [Int.natCast_add, Int.mul_add]; simp]
    omega
theorem take_sum_snoc {ys : List Int} {k : Nat} {y : Int} (h : ys[k]? = some y) : (ys.take (k + 1)).sum = (ys.take k).sum + y := sum_snoc (take_succ_some h)
theorem total_any (A : Option Addr) (c lo hi : Nat) (ys : List Int) (w : World) (hI : Ints w lo hi A c ys) (hl : ys.length ≤ 1000000) (hy : ∀ y, y ∈ ys → -1000000 ≤ y ∧ y ≤ 1000000) :
    Calls Try.prog 52 #[.slice A ys.length c] w fun e w' => e = .returned (.int .i64 ys.sum) ∧ w = w' := by
  have HI := Lib.hid hI; clear hI
  have HY := Lib.hid hy; clear hy
  go_enter Try.func52, Try.ntmps52
  go_wp2_with fail
  go_loop [3, 8] (fun s i => ∃ k : Nat, ∃ z : Int, k ≤ ys.length ∧ i = .int .i64 k ∧ s = .int .i64 z ∧ z = (ys.take k).sum) (fun _ i => ys.length - (intOf i).toNat)
  case atStart => exact ⟨0, 0, by omega, rfl, rfl, by simp⟩
  case round =>
    obtain ⟨k, z, hk, rfl, rfl, hz⟩ := hrel
    have hb := sum_bd (M := 1000000) (by omega) (fun y hy => HY.out y (List.mem_of_mem_take (i := k) hy))
    have hln : ((ys.take k).length : Int) ≤ 1000000 := by rw [List.length_take]; omega
    have hz1 : -1000000000000 ≤ z ∧ z ≤ 1000000000000 := by rw [hz]; omega
    clear hb hln
    have HZ := Lib.hid hz; clear hz
    by_cases hlt : k < ys.length
    · obtain ⟨b, off, y, rfl, hy, hc, _, _, _⟩ := HI.out.at_ hlt
      have hyb := HY.out y (List.mem_of_getElem? hy)
      have HS := Lib.hid (take_sum_snoc hy); clear hy
      go_wp2
      go_round
      case rel => exact ⟨k + 1, _, by omega, by go_num, rfl, by rw [HS.out, HZ.out]⟩
      case measure => simp [intOf]; omega
    · have HE : Hid (ys.sum = z) := Lib.hid (by rw [HZ.out, List.take_of_length_le (by omega)])
      go_wp2
      go_ret
      exact ⟨by simp [HE.out], rfl⟩
theorem l4Sum_any (A : Option Addr) (c lo hi : Nat) (ys : List Int) (w : World) (hI : Ints w lo hi A c ys) (hl : ys.length ≤ 1000000) (hy : ∀ y, y ∈ ys → -1000000 ≤ y ∧ y ≤ 1000000) :
    Calls Try.prog 50 #[.slice A ys.length c] w fun e w' => e = .returned (.int .i64 ys.sum) ∧ w = w' := by
  have HI := Lib.hid hI; clear hI
  have HY := Lib.hid hy; clear hy
  go_enter Try.func50, Try.ntmps50
  go_wp2_with fail
  go_loop [3, 4] (fun s i => ∃ k : Nat, ∃ z : Int, k ≤ ys.length ∧ i = .int .i64 k ∧ s = .int .i64 z ∧ z = (ys.take k).sum) (fun _ i => ys.length - (intOf i).toNat)
  case atStart => exact ⟨0, 0, by omega, rfl, rfl, by simp⟩
  case round =>
    obtain ⟨k, z, hk, rfl, rfl, hz⟩ := hrel
    have hb := sum_bd (M := 1000000) (by omega) (fun y hy => HY.out y (List.mem_of_mem_take (i := k) hy))
    have hln : ((ys.take k).length : Int) ≤ 1000000 := by rw [List.length_take]; omega
    have hz1 : -1000000000000 ≤ z ∧ z ≤ 1000000000000 := by rw [hz]; omega
    clear hb hln
    have HZ := Lib.hid hz; clear hz
    by_cases hlt : k < ys.length
    · obtain ⟨b, off, y, rfl, hy, hc, _, _, _⟩ := HI.out.at_ hlt
      have hyb := HY.out y (List.mem_of_getElem? hy)
      have HS := Lib.hid (take_sum_snoc hy); clear hy
      go_wp2
      go_round
      case rel => exact ⟨k + 1, _, by omega, by go_num, rfl, by rw [HS.out, HZ.out]⟩
      case measure => simp [intOf]; omega
    · have HE : Hid (ys.sum = z) := Lib.hid (by rw [HZ.out, List.take_of_length_le (by omega)])
      go_wp2
      go_ret
      exact ⟨by simp [HE.out], rfl⟩
theorem sumOf_any (A : Option Addr) (c lo hi : Nat) (ys : List Int) (w : World) (hI : Ints w lo hi A c ys) (hl : ys.length ≤ 1000000) (hy : ∀ y, y ∈ ys → -1000000 ≤ y ∧ y ≤ 1000000) :
    Calls Try.prog 30 #[.slice A ys.length c] w fun e w' => e = .returned (.int .i64 ys.sum) ∧ w = w' := by
  have HI := Lib.hid hI; clear hI
  have HY := Lib.hid hy; clear hy
  go_enter Try.func30, Try.ntmps30
  go_wp2_with fail
  go_loop [3, 4] (fun s i => ∃ k : Nat, ∃ z : Int, k ≤ ys.length ∧ i = .int .i64 k ∧ s = .int .i64 z ∧ z = (ys.take k).sum) (fun _ i => ys.length - (intOf i).toNat)
  case atStart => exact ⟨0, 0, by omega, rfl, rfl, by simp⟩
  case round =>
    obtain ⟨k, z, hk, rfl, rfl, hz⟩ := hrel
    have hb := sum_bd (M := 1000000) (by omega) (fun y hy => HY.out y (List.mem_of_mem_take (i := k) hy))
    have hln : ((ys.take k).length : Int) ≤ 1000000 := by rw [List.length_take]; omega
    have hz1 : -1000000000000 ≤ z ∧ z ≤ 1000000000000 := by rw [hz]; omega
    clear hb hln
    have HZ := Lib.hid hz; clear hz
    by_cases hlt : k < ys.length
    · obtain ⟨b, off, y, rfl, hy, hc, _, _, _⟩ := HI.out.at_ hlt
      have hyb := HY.out y (List.mem_of_getElem? hy)
      have HS := Lib.hid (take_sum_snoc hy); clear hy
      go_wp2
      go_round
      case rel => exact ⟨k + 1, _, by omega, by go_num, rfl, by rw [HS.out, HZ.out]⟩
      case measure => simp [intOf]; omega
    · have HE : Hid (ys.sum = z) := Lib.hid (by rw [HZ.out, List.take_of_length_le (by omega)])
      go_wp2
      go_ret
      exact ⟨by simp [HE.out], rfl⟩
theorem idValid_any (n : Int) (w : World) : Calls Try.prog 58 #[.int .i64 n] w fun e w' => e = .returned (.bool (inB n 1 40)) ∧ w = w' := by
  go_enter Try.func58, Try.ntmps58
  go_wp2_with (go_at_call 74; refine (within_any _ _ _ _).mono ?_; rintro e w' ⟨rfl, rfl⟩)
  go_ret
  exact ⟨by simp, rfl⟩
