/- The walk of one statement on the order of tasks. No condition. -/
import Derived.Test.YthfhlcmgeacddaaDb
import Derived.Test.YthfhlcmgeacddaaTk
namespace Go.Proofs.Ythfhlcmgeacddaa
open Go.RowKit
theorem taskLt_swap {i j : Int} {a b : List Int} (h : i ≠ j) : taskLt i a j b = !taskLt j b i a := by
  unfold taskLt
  by_cases h1 : b.sum < a.sum
  · have h2 : ¬ a.sum < b.sum := by omega
    have h3 : ¬ b.sum = a.sum := by omega
    simp [h1, h2, h3]
  · by_cases h2 : a.sum < b.sum
    · simp [h1, h2, show ¬ a.sum = b.sum by omega]
    · have h3 : a.sum = b.sum := by omega
      simp [h3]
      by_cases h4 : i < j
      · simp [h4, show ¬ j < i by omega]
      · simp [h4, show j < i by omega]
theorem tbefore_swap {i j : Int} {a b : List Int} (h : i ≠ j) (h1 : inB i 1 40 = true) (h2 : inB j 1 40 = true) (h3 : vecB a = true) (h4 : vecB b = true) : tbeforeB i a j b = !tbeforeB j b i a := by
  simp [tbeforeB, h1, h2, h3, h4, taskLt_swap h]
set_option maxHeartbeats 1000000 in
theorem FnBefore_walk (A : Option Addr) (n c : Nat) (w : World) (hA : BytesR w w.heap.size A n) (hc : n ≤ c) (hm : c ≤ maxLen) :
    Calls Try.prog 3 #[.slice A n c] w fun e w' => e = .returned (.bool true) ∧ Below w.heap.size w w' := by
  have HA := Lib.hid hA; clear hA
  by_cases hn : 1048576 < n
  · go_enter Try.func3, Try.ntmps3
    go_wp2
    go_ret
    exact ⟨by simp, Below.refl _ _⟩
  have hnd : ¬ ((1048576 : Int) < (n : Int)) := by omega
  go_enter Try.func3, Try.ntmps3
  go_wp2_with fail
  refine (DrawTaskBefore_any A n c w HA.out hc hm).mono ?_; rintro e w1 ⟨i, j, A1, c1, a, B1, d1, b, rfl, hi0, hi1, hj0, hj1, hX, hla, hza, hY, hlb, hzb, hB⟩
  rw [hla, hlb]
  have HX := Lib.hid hX; clear hX
  have HY := Lib.hid hY; clear hY
  have HB := Lib.hid hB; clear hB
  have HLa := Lib.hid hla; clear hla
  have HLb := Lib.hid hlb; clear hlb
  clear hza hzb
  have hs1 := HB.out.size
  go_wp2_with fail
  obtain ⟨w2, hw2⟩ : ∃ W, W = (w1.alloc (.cells #[.int .i64 i, .slice A1 3 c1] 25)).alloc (.cells #[.int .i64 j, .slice B1 3 d1] 25) := ⟨_, rfl⟩
  rw [← hw2]
  have hb : Below w1.heap.size w1 w2 := by rw [hw2]; exact ((Below.refl _ _).alloc (Nat.le_refl _) _).alloc (by simp) _
  have HU : Hid (Blk w2 w1.heap.size 25 [.int .i64 i, .slice A1 3 c1]) := Lib.hid (by rw [hw2]; exact (Blk.new w1 _ _).alloc _)
  have HV : Hid (Blk w2 (w1.heap.size + 1) 25 [.int .i64 j, .slice B1 3 d1]) := Lib.hid (by rw [hw2]; simpa using Blk.new (w1.alloc (.cells #[.int .i64 i, .slice A1 3 c1] 25)) 25 [.int .i64 j, .slice B1 3 d1])
  obtain ⟨ha2, hb2⟩ := le_le (show w2.heap.size = w1.heap.size + 2 by rw [hw2]; simp)
  first | replace HX := Lib.hid (Ints.only HX.out hb (by omega) (by omega)) | replace HX := Lib.hid (Ints.below HX.out hb (by omega))
  first | replace HY := Lib.hid (Ints.only HY.out hb (by omega) (by omega)) | replace HY := Lib.hid (Ints.below HY.out hb (by omega))
  first | replace HB := Lib.hid (Below.trans HB.out (Below.mono hb (by omega))) | replace HB := Lib.hid (Below.trans HB.out (Only.below hb (by omega) (by omega)))
  clear hb hw2
  obtain ⟨t, ht⟩ : ∃ t, tbeforeB i a j b = t := ⟨_, rfl⟩
  have HT := Lib.hid ht; clear ht
  have h1 := tbefore_any i j A1 B1 c1 d1 _ _ _ _ a b w2 HX.out HY.out (by rw [HLa.out]; omega) (by rw [HLb.out]; omega) (by omega) (by omega)
  rw [HLa.out, HLb.out] at h1
  refine h1.mono ?_; rintro e w3 ⟨rfl, hb⟩
  rw [HT.out]
  clear h1
  have hs3 := hb.size
  first | replace HX := Lib.hid (Ints.only HX.out hb (by omega) (by omega)) | replace HX := Lib.hid (Ints.below HX.out hb (by omega))
  first | replace HY := Lib.hid (Ints.only HY.out hb (by omega) (by omega)) | replace HY := Lib.hid (Ints.below HY.out hb (by omega))
  first | replace HB := Lib.hid (Below.trans HB.out (Below.mono hb (by omega))) | replace HB := Lib.hid (Below.trans HB.out (Only.below hb (by omega) (by omega)))
  first | replace HU := Lib.hid (Blk.only HU.out hb (by omega)) | replace HU := Lib.hid (Blk.below HU.out hb (by omega))
  first | replace HV := Lib.hid (Blk.only HV.out hb (by omega)) | replace HV := Lib.hid (Blk.below HV.out hb (by omega))
  clear hb
  have hu0 := HU.out.cell (i := 0) rfl
  have hu1 := HU.out.cell (i := 1) rfl
  have hv0 := HV.out.cell (i := 0) rfl
  have hv1 := HV.out.cell (i := 1) rfl
  go_wp2_with fail
  have h1 := tbeforeS_any i j A1 B1 c1 d1 _ _ _ _ a b w3 HX.out HY.out (by rw [HLa.out]; omega) (by rw [HLb.out]; omega) (by omega) (by omega)
  rw [HLa.out, HLb.out] at h1
  refine h1.mono ?_; rintro e w4 ⟨rfl, hb⟩
  rw [HT.out]
  clear h1 hu0 hu1 hv0 hv1
  have hs4 := hb.size
  first | replace HX := Lib.hid (Ints.only HX.out hb (by omega) (by omega)) | replace HX := Lib.hid (Ints.below HX.out hb (by omega))
  first | replace HY := Lib.hid (Ints.only HY.out hb (by omega) (by omega)) | replace HY := Lib.hid (Ints.below HY.out hb (by omega))
  first | replace HB := Lib.hid (Below.trans HB.out (Below.mono hb (by omega))) | replace HB := Lib.hid (Below.trans HB.out (Only.below hb (by omega) (by omega)))
  first | replace HU := Lib.hid (Blk.only HU.out hb (by omega)) | replace HU := Lib.hid (Blk.below HU.out hb (by omega))
  first | replace HV := Lib.hid (Blk.only HV.out hb (by omega)) | replace HV := Lib.hid (Blk.below HV.out hb (by omega))
  clear hb
  have hu0 := HU.out.cell (i := 0) rfl
  have hu1 := HU.out.cell (i := 1) rfl
  have hv0 := HV.out.cell (i := 0) rfl
  have hv1 := HV.out.cell (i := 1) rfl
  by_cases k0 : i = j
  · subst k0
    go_wp2_with fail
    go_ret
    exact ⟨by simp, HB.out⟩
  by_cases k1 : i < 1
  · go_wp2_with fail
    go_ret
    exact ⟨by simp, HB.out⟩
  by_cases k2 : j < 1
  · go_wp2_with fail
    go_ret
    exact ⟨by simp, HB.out⟩
  by_cases k3 : 40 < i
  · go_wp2_with fail
    go_ret
    exact ⟨by simp, HB.out⟩
  by_cases k4 : 40 < j
  · go_wp2_with fail
    go_ret
    exact ⟨by simp, HB.out⟩
  have k0' : (i == j) = false := by simpa using k0
  have k1' : decide (i < 1) = false := by simpa using k1
  have k2' : decide (j < 1) = false := by simpa using k2
  have k3' : decide (40 < i) = false := by simpa using k3
  have k4' : decide (40 < j) = false := by simpa using k4
  have h1 := vecValidS_any A1 c1 _ _ a w4 HX.out (by rw [HLa.out]; omega)
  rw [HLa.out] at h1
  have h2 := vecValidS_any B1 d1 _ _ b w4 HY.out (by rw [HLb.out]; omega)
  rw [HLb.out] at h2
  have H1 := Lib.hid h1; clear h1
  have H2 := Lib.hid h2; clear h2
  go_wp2_with fail
  refine H1.out.mono ?_; rintro e w' ⟨rfl, rfl⟩
  cases hva : vecB a
  · go_wp2_with fail
    go_ret
    exact ⟨by simp, HB.out⟩
  have HVa := Lib.hid hva; clear hva
  go_wp2_with fail
  refine H2.out.mono ?_; rintro e w' ⟨rfl, rfl⟩
  cases hvb : vecB b
  · go_wp2_with fail
    go_ret
    exact ⟨by simp, HB.out⟩
  have HVb := Lib.hid hvb; clear hvb
  go_wp2_with fail
  have h1 := tbefore_any j i B1 A1 d1 c1 _ _ _ _ b a w4 HY.out HX.out (by rw [HLb.out]; omega) (by rw [HLa.out]; omega) (by omega) (by omega)
  rw [HLa.out, HLb.out] at h1
  refine h1.mono ?_; rintro e w5 ⟨rfl, hb⟩
  have HE : Hid (tbeforeB j b i a = !t) := Lib.hid (by rw [← HT.out, tbefore_swap k0 (inB_true (by omega) (by omega)) (inB_true (by omega) (by omega)) HVa.out HVb.out]; simp)
  rw [HE.out]
  clear h1 hu0 hu1 hv0 hv1
  first | replace HB := Lib.hid (Below.trans HB.out (Below.mono hb (by omega))) | replace HB := Lib.hid (Below.trans HB.out (Only.below hb (by omega) (by omega)))
  clear hb
  go_wp2_with fail
  go_ret
  exact ⟨by simp, HB.out⟩
end Go.Proofs.Ythfhlcmgeacddaa
