/- Contracts of VecMax, VecAdd, VecSub: the reference's and the program's give the same. No condition but on sizes. -/
import Derived.Test.YtojbljaleconpaaVr
import Derived.Test.YtojbljaleconpaaLw
namespace Go.Proofs.Ytojbljaleconpaa
open Go.RowKit
theorem vec_small {a : List Int} (h : vecB a = true) : ∀ x, x ∈ a → -1000000000 ≤ x ∧ x ≤ 1000000000 := by
  intro x hx
  obtain ⟨k, hk⟩ := List.getElem?_of_mem hx
  have := vec_at h hk
  omega
theorem addL_len {a b : List Int} {t : Int} (ha : a.length = 3) (hb : b.length = 3) : (addL a b t).length = 3 := by simp [addL, ha, hb]
theorem maxL_len {a b : List Int} (ha : a.length = 3) (hb : b.length = 3) : (maxL a b).length = 3 := by simp [maxL, ha, hb]
/-- what VecMax, VecAdd, VecSub return -/
def vmaxR (a b : List Int) : List Int := if vecB a && vecB b then maxL a b else []
def vaddR (a b : List Int) : List Int × Bool := if vecB a && vecB b && vecB (addL a b 1) then (addL a b 1, true) else ([], false)
def vsubR (a b : List Int) : List Int × Bool := if vfitsB b a then (addL a b (-1), true) else ([], false)
def RetIB (w : World) (r : List Int × Bool) (e : Ending) (w' : World) : Prop :=
  ∃ A c, e = .returned (.tuple #[.slice A r.1.length c, .bool r.2]) ∧ Ints w' w.heap.size w'.heap.size A c r.1 ∧ Below w.heap.size w w'
theorem ints_empty (w : World) (lo hi : Nat) (A : Option Addr) : Ints w lo hi A 0 [] := ⟨by simp, by simp [maxLen], .inl rfl⟩
theorem vecAddS_any (A B : Option Addr) (c d lo hi lo' hi' : Nat) (a b : List Int) (w : World) (hA : Ints w lo hi A c a) (hB : Ints w lo' hi' B d b) (ha : a.length ≤ 1048576) (hb : b.length ≤ 1048576) (h1 : hi ≤ w.heap.size) (h2 : hi' ≤ w.heap.size) :
    Calls Try.prog 15 #[.slice A a.length c, .slice B b.length d] w (RetIB w (vaddR a b)) := by
  have HA := Lib.hid hA; clear hA
  have HB := Lib.hid hB; clear hB
  cases hva : vecB a
  · have HV := Lib.hid hva; clear hva
    go_enter Try.func15, Try.ntmps15
    go_wp2_with fail
    refine (vecValidS_any _ _ _ _ a _ HA.out ha).mono ?_; rintro e w' ⟨rfl, rfl⟩
    rw [HV.out]
    go_wp2_with fail
    go_ret2
    have e0 : vaddR a b = ([], false) := by simp [vaddR, HV.out]
    rw [e0]
    exact ⟨_, _, rfl, ints_empty _ _ _ _, (Below.refl _ _).alloc (Nat.le_refl _) _⟩
  · have HV := Lib.hid hva; clear hva
    cases hvb : vecB b
    · have HW := Lib.hid hvb; clear hvb
      go_enter Try.func15, Try.ntmps15
      go_wp2_with fail
      refine (vecValidS_any _ _ _ _ a _ HA.out ha).mono ?_; rintro e w' ⟨rfl, rfl⟩
      rw [HV.out]
      go_wp2_with fail
      refine (vecValidS_any _ _ _ _ b _ HB.out hb).mono ?_; rintro e w' ⟨rfl, rfl⟩
      rw [HW.out]
      go_wp2_with fail
      go_ret2
      have e0 : vaddR a b = ([], false) := by simp [vaddR, HW.out]
      rw [e0]
      exact ⟨_, _, rfl, ints_empty _ _ _ _, (Below.refl _ _).alloc (Nat.le_refl _) _⟩
    · have HW := Lib.hid hvb; clear hvb
      have Hla := Lib.hid (vec_len HV.out)
      have Hlb := Lib.hid (vec_len HW.out)
      go_enter Try.func15, Try.ntmps15
      go_wp2_with fail
      refine (vecValidS_any _ _ _ _ a _ HA.out ha).mono ?_; rintro e w' ⟨rfl, rfl⟩
      rw [HV.out]
      go_wp2_with fail
      refine (vecValidS_any _ _ _ _ b _ HB.out hb).mono ?_; rintro e w' ⟨rfl, rfl⟩
      rw [HW.out]
      go_wp2_with fail
      refine (l1Add_any _ _ _ _ _ _ _ _ a b 1 _ HA.out HB.out Hla.out Hlb.out h1 h2 (vec_small HV.out) (vec_small HW.out) (by omega)).mono ?_; rintro e w' ⟨A', c', rfl, hI, hb⟩
      have HI := Lib.hid hI; clear hI
      have hl3 := addL_len (t := 1) Hla.out Hlb.out
      cases hvs : vecB (addL a b 1)
      · have HS := Lib.hid hvs; clear hvs
        rw [← hl3]
        have H3 := Lib.hid hl3; clear hl3
        go_wp2_with fail
        refine (vecValidS_any _ _ _ _ (addL a b 1) _ HI.out (by rw [H3.out]; omega)).mono ?_; rintro e w'' ⟨rfl, rfl⟩
        rw [HS.out]
        go_wp2_with fail
        go_ret2
        have e0 : vaddR a b = ([], false) := by simp [vaddR, HS.out]
        rw [e0]
        exact ⟨_, _, rfl, ints_empty _ _ _ _, hb.alloc hb.size _⟩
      · have HS := Lib.hid hvs; clear hvs
        rw [← hl3]
        have H3 := Lib.hid hl3; clear hl3
        go_wp2_with fail
        refine (vecValidS_any _ _ _ _ (addL a b 1) _ HI.out (by rw [H3.out]; omega)).mono ?_; rintro e w'' ⟨rfl, rfl⟩
        rw [HS.out]
        go_wp2_with fail
        go_ret2
        have e0 : vaddR a b = (addL a b 1, true) := by simp [vaddR, HV.out, HW.out, HS.out]
        rw [e0]
        exact ⟨A', c', rfl, HI.out, hb⟩
theorem vecSubS_any (A B : Option Addr) (c d lo hi lo' hi' : Nat) (a b : List Int) (w : World) (hA : Ints w lo hi A c a) (hB : Ints w lo' hi' B d b) (ha : a.length ≤ 1048576) (hb : b.length ≤ 1048576) (h1 : hi ≤ w.heap.size) (h2 : hi' ≤ w.heap.size) :
    Calls Try.prog 20 #[.slice A a.length c, .slice B b.length d] w (RetIB w (vsubR a b)) := by
  have HA := Lib.hid hA; clear hA
  have HB := Lib.hid hB; clear hB
  cases hf : vfitsB b a
  · have HF := Lib.hid hf; clear hf
    go_enter Try.func20, Try.ntmps20
    go_wp2_with fail
    refine (vecFitsS_any _ _ _ _ _ _ _ _ b a _ HB.out HA.out hb ha).mono ?_; rintro e w' ⟨rfl, n, rfl⟩
    rw [HF.out]
    go_wp2_with fail
    go_ret2
    have e0 : vsubR a b = ([], false) := by simp [vsubR, HF.out]
    rw [e0]
    exact ⟨_, _, rfl, ints_empty _ _ _ _, Below.drewN ((Below.refl _ _).alloc (Nat.le_refl _) _) n⟩
  · have HF := Lib.hid hf
    have Hva := Lib.hid (show vecB a = true by simp only [vfitsB, Bool.and_eq_true] at hf; exact hf.1.2)
    have Hvb := Lib.hid (show vecB b = true by simp only [vfitsB, Bool.and_eq_true] at hf; exact hf.1.1)
    clear hf
    have Hla := Lib.hid (vec_len Hva.out)
    have Hlb := Lib.hid (vec_len Hvb.out)
    go_enter Try.func20, Try.ntmps20
    go_wp2_with fail
    refine (vecFitsS_any _ _ _ _ _ _ _ _ b a _ HB.out HA.out hb ha).mono ?_; rintro e w' ⟨rfl, n, rfl⟩
    rw [HF.out]
    go_wp2_with fail
    refine (l1Add_any _ _ _ _ _ _ _ _ a b (-1) _ (HA.out.drewN n) (HB.out.drewN n) Hla.out Hlb.out h1 h2 (vec_small Hva.out) (vec_small Hvb.out) (by omega)).mono ?_; rintro e w' ⟨A', c', rfl, hI, hb⟩
    have HI := Lib.hid hI; clear hI
    have Hb := Lib.hid hb; clear hb
    go_wp2_with fail
    go_ret2
    have e0 : vsubR a b = (addL a b (-1), true) := by simp [vsubR, HF.out]
    rw [e0]
    exact ⟨A', c', by simp [addL_len Hla.out Hlb.out], HI.out, (Below.drewN (Below.refl _ _) n).trans Hb.out⟩
theorem vecAdd_any (A B : Option Addr) (c d lo hi lo' hi' : Nat) (a b : List Int) (w : World) (hA : Ints w lo hi A c a) (hB : Ints w lo' hi' B d b) (ha : a.length ≤ 1048576) (hb : b.length ≤ 1048576) (h1 : hi ≤ w.heap.size) (h2 : hi' ≤ w.heap.size) :
    Calls Try.prog 14 #[.slice A a.length c, .slice B b.length d] w (RetIB w (vaddR a b)) := by
  have HA := Lib.hid hA; clear hA
  have HB := Lib.hid hB; clear hB
  cases hv : (vecB a && vecB b)
  · have HV := Lib.hid hv; clear hv
    go_enter Try.func14, Try.ntmps14
    go_wp2_with fail
    refine (bothValid_any _ _ _ _ _ _ _ _ a b _ HA.out HB.out ha hb).mono ?_; rintro e w' ⟨rfl, rfl⟩
    rw [HV.out]
    go_wp2_with fail
    go_ret2
    have e0 : vaddR a b = ([], false) := by simp only [vaddR, HV.out]; rfl
    rw [e0]
    exact ⟨_, _, rfl, ints_empty _ _ _ _, Below.refl _ _⟩
  · have HV := Lib.hid hv
    have HVa := Lib.hid (Bool.and_eq_true_iff.1 hv).1
    have HVb := Lib.hid (Bool.and_eq_true_iff.1 hv).2
    have Hla := Lib.hid (vec_len HVa.out)
    have Hlb := Lib.hid (vec_len HVb.out)
    clear hv
    go_enter Try.func14, Try.ntmps14
    go_wp2_with fail
    refine (bothValid_any _ _ _ _ _ _ _ _ a b _ HA.out HB.out ha hb).mono ?_; rintro e w' ⟨rfl, rfl⟩
    rw [HV.out]
    go_wp2_with fail
    refine (plus_any _ _ _ _ _ _ _ _ a b _ HA.out HB.out Hla.out Hlb.out h1 h2 (vec_small HVa.out) (vec_small HVb.out)).mono ?_; rintro e w' ⟨A', c', rfl, hI, hb⟩
    have HI := Lib.hid hI; clear hI
    have hl3 := addL_len (t := 1) Hla.out Hlb.out
    cases hvs : vecB (addL a b 1)
    · have HS := Lib.hid hvs; clear hvs
      rw [← hl3]
      have H3 := Lib.hid hl3; clear hl3
      go_wp2_with fail
      refine (valid_any _ _ _ _ (addL a b 1) _ HI.out (by rw [H3.out]; omega)).mono ?_; rintro e w'' ⟨rfl, rfl⟩
      rw [HS.out]
      go_wp2_with fail
      go_ret2
      have e0 : vaddR a b = ([], false) := by simp [vaddR, HS.out]
      rw [e0]
      exact ⟨_, _, rfl, ints_empty _ _ _ _, hb⟩
    · have HS := Lib.hid hvs; clear hvs
      rw [← hl3]
      have H3 := Lib.hid hl3; clear hl3
      go_wp2_with fail
      refine (valid_any _ _ _ _ (addL a b 1) _ HI.out (by rw [H3.out]; omega)).mono ?_; rintro e w'' ⟨rfl, rfl⟩
      rw [HS.out]
      go_wp2_with fail
      go_ret2
      have e0 : vaddR a b = (addL a b 1, true) := by simp [vaddR, HVa.out, HVb.out, HS.out]
      rw [e0]
      exact ⟨A', c', rfl, HI.out, hb⟩
theorem vecSub_any (A B : Option Addr) (c d lo hi lo' hi' : Nat) (a b : List Int) (w : World) (hA : Ints w lo hi A c a) (hB : Ints w lo' hi' B d b) (ha : a.length ≤ 1048576) (hb : b.length ≤ 1048576) (h1 : hi ≤ w.heap.size) (h2 : hi' ≤ w.heap.size) :
    Calls Try.prog 18 #[.slice A a.length c, .slice B b.length d] w (RetIB w (vsubR a b)) := by
  have HA := Lib.hid hA; clear hA
  have HB := Lib.hid hB; clear hB
  cases hf : vfitsB b a
  · have HF := Lib.hid hf; clear hf
    go_enter Try.func18, Try.ntmps18
    go_wp2_with fail
    refine (vecFits_any _ _ _ _ _ _ _ _ b a _ HB.out HA.out hb ha).mono ?_; rintro e w' ⟨rfl, rfl⟩
    rw [HF.out]
    go_wp2_with fail
    go_ret2
    have e0 : vsubR a b = ([], false) := by simp [vsubR, HF.out]
    rw [e0]
    exact ⟨_, _, rfl, ints_empty _ _ _ _, Below.refl _ _⟩
  · have HF := Lib.hid hf
    have Hva := Lib.hid (show vecB a = true by simp only [vfitsB, Bool.and_eq_true] at hf; exact hf.1.2)
    have Hvb := Lib.hid (show vecB b = true by simp only [vfitsB, Bool.and_eq_true] at hf; exact hf.1.1)
    clear hf
    have Hla := Lib.hid (vec_len Hva.out)
    have Hlb := Lib.hid (vec_len Hvb.out)
    go_enter Try.func18, Try.ntmps18
    go_wp2_with fail
    refine (vecFits_any _ _ _ _ _ _ _ _ b a _ HB.out HA.out hb ha).mono ?_; rintro e w' ⟨rfl, rfl⟩
    rw [HF.out]
    go_wp2_with fail
    refine (minus_any _ _ _ _ _ _ _ _ a b _ HA.out HB.out Hla.out Hlb.out h1 h2 (vec_small Hva.out) (vec_small Hvb.out)).mono ?_; rintro e w' ⟨A', c', rfl, hI, hb⟩
    have HI := Lib.hid hI; clear hI
    have Hb := Lib.hid hb; clear hb
    go_wp2_with fail
    go_ret2
    have e0 : vsubR a b = (addL a b (-1), true) := by simp [vsubR, HF.out]
    rw [e0]
    exact ⟨A', c', by simp [addL_len Hla.out Hlb.out], HI.out, Hb.out⟩
