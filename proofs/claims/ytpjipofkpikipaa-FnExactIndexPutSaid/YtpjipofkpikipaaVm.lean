/- Contracts of VecMax, VecAdd, VecSub: the reference's and the program's give the same. No condition but on sizes. -/
import Derived.Test.YtpjipofkpikipaaVr
import Derived.Test.YtpjipofkpikipaaLw
namespace Go.Proofs.Ytpjipofkpikipaa
open Go.RowKit
theorem vec_small {a : List Int} (h : vecB a = true) : ∀ x, x ∈ a → -1000000000 ≤ x ∧ x ≤ 1000000000 := by
  intro x hx
  obtain ⟨k, hk⟩ := List.getElem?_of_mem hx
  have := vec_at h hk
  omega
theorem addL_len {a b : List Int} {t : Int} (ha : a.length = 3) (hb : b.length = 3) : (addL a b t).length = 3 := by simp [addL, ha, hb]
theorem maxL_len {a b : List Int} (ha : a.length = 3) (hb : b.length = 3) : (maxL a b).length = 3 := by simp [maxL, ha, hb]
/-- what VecMax, VecAdd, VecSub return -/
def vmaxR (a b : List Int) : List Int := if vecB a && vecB b then maxL a b else []
def vaddR (a b : List Int) : List Int × Bool := if vecB a && vecB b && vecB (addL a b 1) then (addL a b 1, true) else ([], false)
def vsubR (a b : List Int) : List Int × Bool := if vfitsB b a then (addL a b (-1), true) else ([], false)
def RetIB (w : World) (r : List Int × Bool) (e : Ending) (w' : World) : Prop :=
  ∃ A c, e = .returned (.tuple #[.slice A r.1.length c, .bool r.2]) ∧ Ints w' w.heap.size w'.heap.size A c r.1 ∧ Below w.heap.size w w'
theorem ints_empty (w : World) (lo hi : Nat) (A : Option Addr) : Ints w lo hi A 0 [] := ⟨by simp, by simp [maxLen], .inl rfl⟩
theorem zeros_make : ∀ w : World, (Instr.makeSlice 49 (.int .i64 3) (.int .i64 3)).run Try.prog w = .ok (.slice (some ⟨w.heap.size, 0, none⟩) 3 3) (w.alloc (.cells #[.int .i64 0, .int .i64 0, .int .i64 0] 3)) := fun _ => by kernel_rfl
theorem zeros_any (w : World) :
    Calls Try.prog 46 #[] w fun e w' => e = .returned (.slice (some ⟨w.heap.size, 0, none⟩) 3 3) ∧ w' = w.alloc (.cells #[.int .i64 0, .int .i64 0, .int .i64 0] 3) := by
  have hmk := zeros_make
  go_enter Try.func46, Try.ntmps46
  go_wp2_with fail
  go_ret
  exact ⟨by simp, rfl⟩
theorem vecMax_any (A B : Option Addr) (c d lo hi lo' hi' : Nat) (a b : List Int) (w : World) (hA : Ints w lo hi A c a) (hB : Ints w lo' hi' B d b) (ha : a.length ≤ 1048576) (hb : b.length ≤ 1048576) (h1 : hi ≤ w.heap.size) (h2 : hi' ≤ w.heap.size) :
    Calls Try.prog 70 #[.slice A a.length c, .slice B b.length d] w (RetI w (vmaxR a b)) := by
  have HA := Lib.hid hA; clear hA
  have HB := Lib.hid hB; clear hB
  cases hv : (vecB a && vecB b)
  · have HV := Lib.hid hv; clear hv
    go_enter Try.func70, Try.ntmps70
    go_wp2_with fail
    refine (bothValid_any _ _ _ _ _ _ _ _ a b _ HA.out HB.out ha hb).mono ?_; rintro e w' ⟨rfl, rfl⟩
    rw [HV.out]
    go_wp2_with fail
    go_ret
    have e0 : vmaxR a b = [] := by simp only [vmaxR, HV.out]; rfl
    rw [e0]
    exact ⟨_, _, rfl, ints_empty _ _ _ _, Below.refl _ _⟩
  · have HV := Lib.hid hv
    have HVa := Lib.hid (Bool.and_eq_true_iff.1 hv).1
    have HVb := Lib.hid (Bool.and_eq_true_iff.1 hv).2
    have Ha := Lib.hid (vec_len HVa.out)
    have Hb := Lib.hid (vec_len HVb.out)
    have HR : Hid (vmaxR a b = maxL a b) := by have := hv; unfold Hid; simp only [vmaxR, this]; rfl
    clear hv
    go_enter Try.func70, Try.ntmps70
    go_wp2_with fail
    refine (bothValid_any _ _ _ _ _ _ _ _ a b _ HA.out HB.out ha hb).mono ?_; rintro e w' ⟨rfl, rfl⟩
    rw [HV.out]
    go_wp2_with fail
    refine (zeros_any _).mono ?_; rintro e w' ⟨rfl, rfl⟩
    go_wp2_with fail
    go_loopw [14] (fun i wr => ∃ k : Nat, ∃ cs : List Int, k ≤ 3 ∧ i = .int .i64 k ∧ wr.ownsRow w.heap.size 3 1 (.slice (some ⟨w.heap.size, 0, none⟩) 3 3) 3 (cs.map (Value.int .i64)) ∧ Fill (maxL a b) cs k ∧ Below w.heap.size w wr) (fun i _ => 3 - (intOf i).toNat)
    case atStart =>
      exact ⟨0, [0, 0, 0], by omega, rfl, World.ownsRow_lit w #[.int .i64 0, .int .i64 0, .int .i64 0] 3 (Nat.le_refl _) (by simp [maxLen]) rfl, Fill.start (by simp [maxL, Ha.out, Hb.out]), (Below.refl _ _).alloc (Nat.le_refl _) _⟩
    case round =>
      obtain ⟨k, cs, hk, rfl, hown, hfill, hbl⟩ := hrel
      have HO := Lib.hid hown; clear hown
      have HBl := Lib.hid hbl; clear hbl
      have HF := Lib.hid hfill; clear hfill
      have hl0 : a.length = 3 := Ha.out
      have hl1 : b.length = 3 := Hb.out
      by_cases hlt : k < 3
      · obtain ⟨p, off, x, rfl, hx, hc, _, _, hp⟩ := (HA.out.below HBl.out h1).at_ (k := k) (by omega)
        obtain ⟨p', off', y, rfl, hy, hc', _, _, hp'⟩ := (HB.out.below HBl.out h2).at_ (k := k) (by omega)
        obtain ⟨u, _, hc0, hf0⟩ := own_at HO.out hlt
        have HZ0 := maxL_some hx hy
        obtain ⟨z, hz, hif⟩ : ∃ z, max x y = z ∧ (if x < y then y else x) = z := ⟨max x y, rfl, by split <;> omega⟩
        rw [hz] at HZ0
        have HZ := Lib.hid HZ0
        clear hx hy hz HZ0
        have hn1 : ((k : Nat) : Int) < 3 := by omega
        have hq1 : p ≠ w.heap.size := by omega
        have hq2 : p' ≠ w.heap.size := by omega
        go_wp2_with fail
        go_region
        clear hif
        go_wp2
        go_roundw
        case rel => exact ⟨k + 1, _, by omega, by go_num, own_set HO.out k z, HF.out.next hlt HZ.out, (HBl.out.setCell (p := ⟨w.heap.size, k, none⟩) (Nat.le_refl _) _).drew⟩
        case measure => simp [intOf]; omega
      · have hO := HO.out
        rw [HF.out.done (by omega)] at hO
        obtain ⟨A', c', he, hl, hI⟩ := Ints.of_own hO
        have HE := Lib.hid he
        have HI := Lib.hid hI
        clear hO he hl hI
        go_wp2
        go_ret
        rw [HR.out]
        exact ⟨A', c', by simpa using HE.out, HI.out, HBl.out⟩
end Go.Proofs.Ytpjipofkpikipaa
