/- The order of tasks: l4Before and TaskBefore, both programs. No condition but on sizes. -/
import Derived.Test.YthfhlcmgeacddaaTb
namespace Go.Proofs.Ythfhlcmgeacddaa
open Go.RowKit
/-- one task comes before another one -/
def taskLt (i : Int) (a : List Int) (j : Int) (b : List Int) : Bool := decide (b.sum < a.sum) || (decide (a.sum = b.sum) && decide (i < j))
def tbeforeB (i : Int) (a : List Int) (j : Int) (b : List Int) : Bool := inB i 1 40 && inB j 1 40 && vecB a && vecB b && taskLt i a j b
theorem taskLt_cmp (i j : Int) (a b : List Int) : decide (orI (cmpI b.sum a.sum) (cmpI i j) < 0) = taskLt i a j b := by
  unfold orI cmpI taskLt
  by_cases h1 : b.sum < a.sum
  · simp [h1]
  · by_cases h2 : a.sum < b.sum
    · simp [h1, h2, show ¬ a.sum = b.sum by omega]
    · have h3 : a.sum = b.sum := by omega
      simp [h3]
      by_cases h4 : i < j
      · simp [h4]
      · simp [h4]; split <;> decide
theorem tbf {i j : Int} {a b : List Int} (h : (vecB a && vecB b) = false) : tbeforeB i a j b = false := by
  unfold tbeforeB
  rw [Bool.and_assoc (_ && _) (vecB a) (vecB b), h]; simp
theorem l4Before_any (i j : Int) (A B : Option Addr) (c d lo hi lo' hi' : Nat) (a b : List Int) (w : World) (hA : Ints w lo hi A c a) (hB : Ints w lo' hi' B d b) (ha : vecB a = true) (hb : vecB b = true) (h1 : hi ≤ w.heap.size) (h2 : hi' ≤ w.heap.size) :
    Calls Try.prog 49 #[.agg #[.int .i64 i, .slice A a.length c], .agg #[.int .i64 j, .slice B b.length d]] w fun e w' => e = .returned (.bool (taskLt i a j b)) ∧ Below w.heap.size w w' := by
  have HA := Lib.hid hA; clear hA
  have HB := Lib.hid hB; clear hB
  have HBA : Hid (Below w.heap.size w ((w.alloc (.cells #[.int .i64 i, .slice A a.length c] 25)).alloc (.cells #[.int .i64 j, .slice B b.length d] 25))) := Lib.hid (((Below.refl _ _).alloc (Nat.le_refl _) _).alloc (by simp) _)
  have HKA := Lib.hid (HA.out.below HBA.out h1)
  have HKB := Lib.hid (HB.out.below HBA.out h2)
  have HVa := Lib.hid (vec_sum ha)
  have HVb := Lib.hid (vec_sum hb)
  have hla : a.length ≤ 1000000 := by rw [vec_len ha]; omega
  have hlb : b.length ≤ 1000000 := by rw [vec_len hb]; omega
  clear ha hb
  obtain ⟨x, hx⟩ : ∃ x, x = a.sum := ⟨_, rfl⟩
  obtain ⟨y, hy⟩ : ∃ y, y = b.sum := ⟨_, rfl⟩
  have HX := Lib.hid hx; clear hx
  have HY := Lib.hid hy; clear hy
  have HE : Hid (taskLt i a j b = (decide (y < x) || (decide (x = y) && decide (i < j)))) := Lib.hid (by rw [taskLt, HX.out, HY.out])
  by_cases hxy : y < x
  · have HE1 : Hid (taskLt i a j b = true) := Lib.hid (by simp [HE.out, hxy])
    go_enter Try.func49, Try.ntmps49
    go_wp2_with (go_at_call 72; first | ((with_reducible refine (l4Sum_any A c lo hi a _ HKA.out hla HVa.out).mono ?_); rintro e w' ⟨rfl, rfl⟩; rw [← HX.out]) | ((with_reducible refine (l4Sum_any B d lo' hi' b _ HKB.out hlb HVb.out).mono ?_); rintro e w' ⟨rfl, rfl⟩; rw [← HY.out]))
    go_ret
    exact ⟨by simp [HE1.out] <;> omega, HBA.out⟩
  · by_cases hxe : x = y
    · subst hxe
      clear hxy
      by_cases hij : i < j
      · have HE1 : Hid (taskLt i a j b = true) := Lib.hid (by simp [HE.out, hij])
        go_enter Try.func49, Try.ntmps49
        go_wp2_with (go_at_call 72; first | ((with_reducible refine (l4Sum_any A c lo hi a _ HKA.out hla HVa.out).mono ?_); rintro e w' ⟨rfl, rfl⟩; rw [← HX.out]) | ((with_reducible refine (l4Sum_any B d lo' hi' b _ HKB.out hlb HVb.out).mono ?_); rintro e w' ⟨rfl, rfl⟩; rw [← HY.out]))
        go_ret
        exact ⟨by simp [HE1.out] <;> omega, HBA.out⟩
      · have HE1 : Hid (taskLt i a j b = false) := Lib.hid (by simp [HE.out]; omega)
        go_enter Try.func49, Try.ntmps49
        go_wp2_with (go_at_call 72; first | ((with_reducible refine (l4Sum_any A c lo hi a _ HKA.out hla HVa.out).mono ?_); rintro e w' ⟨rfl, rfl⟩; rw [← HX.out]) | ((with_reducible refine (l4Sum_any B d lo' hi' b _ HKB.out hlb HVb.out).mono ?_); rintro e w' ⟨rfl, rfl⟩; rw [← HY.out]))
        go_ret
        exact ⟨by simp [HE1.out] <;> omega, HBA.out⟩
    · have hyx : x < y := by omega
      have HE1 : Hid (taskLt i a j b = false) := Lib.hid (by simp [HE.out]; omega)
      go_enter Try.func49, Try.ntmps49
      go_wp2_with (go_at_call 72; first | ((with_reducible refine (l4Sum_any A c lo hi a _ HKA.out hla HVa.out).mono ?_); rintro e w' ⟨rfl, rfl⟩; rw [← HX.out]) | ((with_reducible refine (l4Sum_any B d lo' hi' b _ HKB.out hlb HVb.out).mono ?_); rintro e w' ⟨rfl, rfl⟩; rw [← HY.out]))
      go_ret
      exact ⟨by simp [HE1.out] <;> omega, HBA.out⟩
theorem tbeforeS_any (i j : Int) (A B : Option Addr) (c d lo hi lo' hi' : Nat) (a b : List Int) (w : World) (hA : Ints w lo hi A c a) (hB : Ints w lo' hi' B d b) (ha : a.length ≤ 1048576) (hb : b.length ≤ 1048576) (h1 : hi ≤ w.heap.size) (h2 : hi' ≤ w.heap.size) :
    Calls Try.prog 17 #[.agg #[.int .i64 i, .slice A a.length c], .agg #[.int .i64 j, .slice B b.length d]] w fun e w' => e = .returned (.bool (tbeforeB i a j b)) ∧ Below w.heap.size w w' := by
  have HA := Lib.hid hA; clear hA
  have HB := Lib.hid hB; clear hB
  have HBA : Hid (Below w.heap.size w ((w.alloc (.cells #[.int .i64 i, .slice A a.length c] 25)).alloc (.cells #[.int .i64 j, .slice B b.length d] 25))) := Lib.hid (((Below.refl _ _).alloc (Nat.le_refl _) _).alloc (by simp) _)
  have HKA := Lib.hid (HA.out.below HBA.out h1)
  have HKB := Lib.hid (HB.out.below HBA.out h2)
  cases hc0 : inB i 1 40
  · have HC0 := Lib.hid hc0; clear hc0
    go_enter Try.func17, Try.ntmps17
    go_wp2_with fail
    refine (l6In_any i 1 40 _).mono ?_; rintro e w' ⟨rfl, rfl⟩; rw [HC0.out]
    go_wp2_with fail
    go_ret
    exact ⟨by simp [tbeforeB, HC0.out], HBA.out⟩
  · have HC0 := Lib.hid hc0; clear hc0
    cases hc1 : inB j 1 40
    · have HC1 := Lib.hid hc1; clear hc1
      go_enter Try.func17, Try.ntmps17
      go_wp2_with fail
      refine (l6In_any i 1 40 _).mono ?_; rintro e w' ⟨rfl, rfl⟩; rw [HC0.out]
      go_wp2_with fail
      refine (l6In_any j 1 40 _).mono ?_; rintro e w' ⟨rfl, rfl⟩; rw [HC1.out]
      go_wp2_with fail
      go_ret
      exact ⟨by simp [tbeforeB, HC1.out], HBA.out⟩
    · have HC1 := Lib.hid hc1; clear hc1
      cases hc2 : vecB a
      · have HC2 := Lib.hid hc2; clear hc2
        go_enter Try.func17, Try.ntmps17
        go_wp2_with fail
        refine (l6In_any i 1 40 _).mono ?_; rintro e w' ⟨rfl, rfl⟩; rw [HC0.out]
        go_wp2_with fail
        refine (l6In_any j 1 40 _).mono ?_; rintro e w' ⟨rfl, rfl⟩; rw [HC1.out]
        go_wp2_with fail
        refine (vecValidS_any A c lo hi a _ HKA.out ha).mono ?_; rintro e w' ⟨rfl, rfl⟩; rw [HC2.out]
        go_wp2_with fail
        go_ret
        exact ⟨by simp [tbeforeB, HC2.out], HBA.out⟩
      · have HC2 := Lib.hid hc2; clear hc2
        cases hc3 : vecB b
        · have HC3 := Lib.hid hc3; clear hc3
          go_enter Try.func17, Try.ntmps17
          go_wp2_with fail
          refine (l6In_any i 1 40 _).mono ?_; rintro e w' ⟨rfl, rfl⟩; rw [HC0.out]
          go_wp2_with fail
          refine (l6In_any j 1 40 _).mono ?_; rintro e w' ⟨rfl, rfl⟩; rw [HC1.out]
          go_wp2_with fail
          refine (vecValidS_any A c lo hi a _ HKA.out ha).mono ?_; rintro e w' ⟨rfl, rfl⟩; rw [HC2.out]
          go_wp2_with fail
          refine (vecValidS_any B d lo' hi' b _ HKB.out hb).mono ?_; rintro e w' ⟨rfl, rfl⟩; rw [HC3.out]
          go_wp2_with fail
          go_ret
          exact ⟨by simp [tbeforeB, HC3.out], HBA.out⟩
        · have HC3 := Lib.hid hc3; clear hc3
          go_enter Try.func17, Try.ntmps17
          go_wp2_with fail
          refine (l6In_any i 1 40 _).mono ?_; rintro e w' ⟨rfl, rfl⟩; rw [HC0.out]
          go_wp2_with fail
          refine (l6In_any j 1 40 _).mono ?_; rintro e w' ⟨rfl, rfl⟩; rw [HC1.out]
          go_wp2_with fail
          refine (vecValidS_any A c lo hi a _ HKA.out ha).mono ?_; rintro e w' ⟨rfl, rfl⟩; rw [HC2.out]
          go_wp2_with fail
          refine (vecValidS_any B d lo' hi' b _ HKB.out hb).mono ?_; rintro e w' ⟨rfl, rfl⟩; rw [HC3.out]
          go_wp2_with fail
          refine (l4Before_any i j A B c d lo hi lo' hi' a b _ HKA.out HKB.out HC2.out HC3.out (by simp; omega) (by simp; omega)).mono ?_; rintro e w' ⟨rfl, hb'⟩
          go_wp2_with fail
          go_ret
          exact ⟨by simp [tbeforeB, HC0.out, HC1.out, HC2.out, HC3.out], HBA.out.trans (hb'.mono (by simp; omega))⟩
theorem tbefore_any (i j : Int) (A B : Option Addr) (c d lo hi lo' hi' : Nat) (a b : List Int) (w : World) (hA : Ints w lo hi A c a) (hB : Ints w lo' hi' B d b) (ha : a.length ≤ 1048576) (hb : b.length ≤ 1048576) (h1 : hi ≤ w.heap.size) (h2 : hi' ≤ w.heap.size) :
    Calls Try.prog 16 #[.agg #[.int .i64 i, .slice A a.length c], .agg #[.int .i64 j, .slice B b.length d]] w fun e w' => e = .returned (.bool (tbeforeB i a j b)) ∧ Below w.heap.size w w' := by
  have HA := Lib.hid hA; clear hA
  have HB := Lib.hid hB; clear hB
  have HBA : Hid (Below w.heap.size w ((w.alloc (.cells #[.int .i64 i, .slice A a.length c] 25)).alloc (.cells #[.int .i64 j, .slice B b.length d] 25))) := Lib.hid (((Below.refl _ _).alloc (Nat.le_refl _) _).alloc (by simp) _)
  have HKA := Lib.hid (HA.out.below HBA.out h1)
  have HKB := Lib.hid (HB.out.below HBA.out h2)
  cases hc0 : inB i 1 40
  · have HC0 := Lib.hid hc0; clear hc0
    go_enter Try.func16, Try.ntmps16
    go_wp2_with fail
    refine (idValid_any i _).mono ?_; rintro e w' ⟨rfl, rfl⟩; rw [HC0.out]
    go_wp2_with fail
    go_ret
    exact ⟨by simp [tbeforeB, HC0.out], HBA.out⟩
  · have HC0 := Lib.hid hc0; clear hc0
    cases hc1 : inB j 1 40
    · have HC1 := Lib.hid hc1; clear hc1
      go_enter Try.func16, Try.ntmps16
      go_wp2_with fail
      refine (idValid_any i _).mono ?_; rintro e w' ⟨rfl, rfl⟩; rw [HC0.out]
      go_wp2_with fail
      refine (idValid_any j _).mono ?_; rintro e w' ⟨rfl, rfl⟩; rw [HC1.out]
      go_wp2_with fail
      go_ret
      exact ⟨by simp [tbeforeB, HC1.out], HBA.out⟩
    · have HC1 := Lib.hid hc1; clear hc1
      cases hc2 : (vecB a && vecB b)
      · have HC2 := Lib.hid hc2; clear hc2
        go_enter Try.func16, Try.ntmps16
        go_wp2_with fail
        refine (idValid_any i _).mono ?_; rintro e w' ⟨rfl, rfl⟩; rw [HC0.out]
        go_wp2_with fail
        refine (idValid_any j _).mono ?_; rintro e w' ⟨rfl, rfl⟩; rw [HC1.out]
        go_wp2_with fail
        refine (bothValid_any A B c d lo hi lo' hi' a b _ HKA.out HKB.out ha hb).mono ?_; rintro e w' ⟨rfl, rfl⟩; rw [HC2.out]
        go_wp2_with fail
        go_ret
        exact ⟨by simp [tbf HC2.out], HBA.out⟩
      · have HC2 := Lib.hid hc2; clear hc2
        go_enter Try.func16, Try.ntmps16
        go_wp2_with fail
        refine (idValid_any i _).mono ?_; rintro e w' ⟨rfl, rfl⟩; rw [HC0.out]
        go_wp2_with fail
        refine (idValid_any j _).mono ?_; rintro e w' ⟨rfl, rfl⟩; rw [HC1.out]
        go_wp2_with fail
        refine (bothValid_any A B c d lo hi lo' hi' a b _ HKA.out HKB.out ha hb).mono ?_; rintro e w' ⟨rfl, rfl⟩; rw [HC2.out]
        go_wp2_with fail
        have hv : vecB a = true ∧ vecB b = true := by simpa using HC2.out
        refine (tcompare_any i j A B c d lo hi lo' hi' a b _ HKA.out HKB.out hv.1 hv.2 (by simp; omega) (by simp; omega)).mono ?_; rintro e w' ⟨rfl, hb'⟩
        go_wp2_with fail
        go_ret
        exact ⟨by simp [tbeforeB, HC0.out, HC1.out, hv.1, hv.2, taskLt_cmp], HBA.out.trans (hb'.mono (by simp; omega))⟩
end Go.Proofs.Ythfhlcmgeacddaa
