/- Helpers of the exact statements on one task: szIntS, szTask, toTask, eqTask. No condition but on sizes. -/
import Derived.Test.YtpjipofkpikipaaTy
import Derived.Test.YtpjipofkpikipaaLw
namespace Go.Proofs.Ytpjipofkpikipaa
open Go.RowKit
/-- what is left -/
def szv (left : Int) (n : Nat) : Int := if (n : Int) ≤ left then left - n else -1
theorem szv_lo {left : Int} {n : Nat} (h : szv left n < 0) : left < n ∨ left < 0 := by unfold szv at h; split at h <;> omega
theorem szv_hi {left : Int} {n : Nat} (h : ¬ szv left n < 0) : szv left n = left - n ∧ (n : Int) ≤ left := by unfold szv at h ⊢; split at h <;> simp_all
theorem szv_bd {left : Int} {n : Nat} (h : 0 ≤ left ∧ left ≤ 1048576) : -1 ≤ szv left n ∧ szv left n ≤ 1048576 := by unfold szv; split <;> omega
theorem szIntS_any (A : Option Addr) (n c : Nat) (left : Int) (w : World) (hl : 0 ≤ left ∧ left ≤ 1048576) (hn : n ≤ maxLen) :
    Calls Try.prog 51 #[.slice A n c, .int .i64 left] w fun e w' => e = .returned (.int .i64 (szv left n)) ∧ w = w' := by
  have hn' : n ≤ 9223372036854775807 := by simpa [maxLen] using hn
  have hwr : IntKind.i64.wrap (left - (n : Int)) = left - n := by rw [IntKind.wrap_i64]; omega
  clear hn
  by_cases h : (n : Int) ≤ left
  · have h2 : ¬ left - (n : Int) < 0 := by omega
    have HE : Hid (szv left n = left - n) := Lib.hid (by simp [szv, h])
    go_enter Try.func51, Try.ntmps51
    go_wp2_with fail
    go_ret
    exact ⟨by simp [HE.out], rfl⟩
  · have h2 : left - (n : Int) < 0 := by omega
    have HE : Hid (szv left n = -1) := Lib.hid (by simp [szv, h])
    go_enter Try.func51, Try.ntmps51
    go_wp2_with fail
    go_ret
    exact ⟨by simp [HE.out], rfl⟩
