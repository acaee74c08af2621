/- Contracts of VecMax, VecAdd, VecSub: the reference's and the program's give the same. No condition but on sizes. -/
import Derived.Test.YtcmampicgdobcaaVr
import Derived.Test.YtcmampicgdobcaaLw
namespace Go.Proofs.Ytcmampicgdobcaa
open Go.RowKit
theorem vec_small {a : List Int} (h : vecB a = true) : ∀ x, x ∈ a → -1000000000 ≤ x ∧ x ≤ 1000000000 := by
  intro x hx
  obtain ⟨k, hk⟩ := List.getElem?_of_mem hx
  have := vec_at h hk
  omega
theorem addL_len {a b : List Int} {t : Int} (ha : a.length = 3) (hb : b.length = 3) : (addL a b t).length = 3 := by simp [addL, ha, hb]
theorem maxL_len {a b : List Int} (ha : a.length = 3) (hb : b.length = 3) : (maxL a b).length = 3 := by simp [maxL, ha, hb]
/-- what VecMax, VecAdd, VecSub return -/
def vmaxR (a b : List Int) : List Int := if vecB a && vecB b then maxL a b else []
def vaddR (a b : List Int) : List Int × Bool := if vecB a && vecB b && vecB (addL a b 1) then (addL a b 1, true) else ([], false)
def vsubR (a b : List Int) : List Int × Bool := if vfitsB b a then (addL a b (-1), true) else ([], false)
def RetIB (w : World) (r : List Int × Bool) (e : Ending) (w' : World) : Prop :=
  ∃ A c, e = .returned (.tuple #[.slice A r.1.length c, .bool r.2]) ∧ Ints w' w.heap.size w'.heap.size A c r.1 ∧ Below w.heap.size w w'
theorem ints_empty (w : World) (lo hi : Nat) (A : Option Addr) : Ints w lo hi A 0 [] := ⟨by simp, by simp [maxLen], .inl rfl⟩
theorem zeros_make : ∀ w : World, (Instr.makeSlice 65 (.int .i64 3) (.int .i64 3)).run Try.prog w = .ok (.slice (some ⟨w.heap.size, 0, none⟩) 3 3) (w.alloc (.cells #[.int .i64 0, .int .i64 0, .int .i64 0] 3)) := fun _ => by kernel_rfl
theorem zeros_any (w : World) :
    Calls Try.prog 49 #[] w fun e w' => e = .returned (.slice (some ⟨w.heap.size, 0, none⟩) 3 3) ∧ w' = w.alloc (.cells #[.int .i64 0, .int .i64 0, .int .i64 0] 3) := by
  have hmk := zeros_make
  go_enter Try.func49, Try.ntmps49
  go_wp2_with fail
  go_ret
  exact ⟨by simp, rfl⟩
