/- The walk of one statement on the order of tasks. No condition. -/
import Derived.Test.YthfhlcmgeacddaaDb
import Derived.Test.YthfhlcmgeacddaaTk
namespace Go.Proofs.Ythfhlcmgeacddaa
open Go.RowKit
set_option maxHeartbeats 1000000 in
theorem FnBeforeSum_walk (A : Option Addr) (n c : Nat) (w : World) (hA : BytesR w w.heap.size A n) (hc : n ≤ c) (hm : c ≤ maxLen) :
    Calls Try.prog 4 #[.slice A n c] w fun e w' => e = .returned (.bool true) ∧ Below w.heap.size w w' := by
  have HA := Lib.hid hA; clear hA
  by_cases hn : 1048576 < n
  · go_enter Try.func4, Try.ntmps4
    go_wp2
    go_ret
    exact ⟨by simp, Below.refl _ _⟩
  have hnd : ¬ ((1048576 : Int) < (n : Int)) := by omega
  go_enter Try.func4, Try.ntmps4
  go_wp2_with fail
  refine (DrawTaskBefore_any A n c w HA.out hc hm).mono ?_; rintro e w1 ⟨i, j, A1, c1, a, B1, d1, b, rfl, hi0, hi1, hj0, hj1, hX, hla, hza, hY, hlb, hzb, hB⟩
  rw [hla, hlb]
  have HX := Lib.hid hX; clear hX
  have HY := Lib.hid hY; clear hY
  have HB := Lib.hid hB; clear hB
  have HLa := Lib.hid hla; clear hla
  have HLb := Lib.hid hlb; clear hlb
  have HZa := Lib.hid hza; clear hza
  have HZb := Lib.hid hzb; clear hzb
  have hs1 := HB.out.size
  go_wp2_with fail
  obtain ⟨w2, hw2⟩ : ∃ W, W = (w1.alloc (.cells #[.int .i64 i, .slice A1 3 c1] 25)).alloc (.cells #[.int .i64 j, .slice B1 3 d1] 25) := ⟨_, rfl⟩
  rw [← hw2]
  have hb : Below w1.heap.size w1 w2 := by rw [hw2]; exact ((Below.refl _ _).alloc (Nat.le_refl _) _).alloc (by simp) _
  have HU : Hid (Blk w2 w1.heap.size 25 [.int .i64 i, .slice A1 3 c1]) := Lib.hid (by rw [hw2]; exact (Blk.new w1 _ _).alloc _)
  have HV : Hid (Blk w2 (w1.heap.size + 1) 25 [.int .i64 j, .slice B1 3 d1]) := Lib.hid (by rw [hw2]; simpa using Blk.new (w1.alloc (.cells #[.int .i64 i, .slice A1 3 c1] 25)) 25 [.int .i64 j, .slice B1 3 d1])
  obtain ⟨ha2, hb2⟩ := le_le (show w2.heap.size = w1.heap.size + 2 by rw [hw2]; simp)
  first | replace HX := Lib.hid (Ints.only HX.out hb (by omega) (by omega)) | replace HX := Lib.hid (Ints.below HX.out hb (by omega))
  first | replace HY := Lib.hid (Ints.only HY.out hb (by omega) (by omega)) | replace HY := Lib.hid (Ints.below HY.out hb (by omega))
  first | replace HB := Lib.hid (Below.trans HB.out (Below.mono hb (by omega))) | replace HB := Lib.hid (Below.trans HB.out (Only.below hb (by omega) (by omega)))
  clear hb hw2
  obtain ⟨t, ht⟩ : ∃ t, tbeforeB i a j b = t := ⟨_, rfl⟩
  have HT := Lib.hid ht; clear ht
  have h1 := tbefore_any i j A1 B1 c1 d1 _ _ _ _ a b w2 HX.out HY.out (by rw [HLa.out]; omega) (by rw [HLb.out]; omega) (by omega) (by omega)
  rw [HLa.out, HLb.out] at h1
  refine h1.mono ?_; rintro e w3 ⟨rfl, hb⟩
  rw [HT.out]
  clear h1
  have hs3 := hb.size
  first | replace HX := Lib.hid (Ints.only HX.out hb (by omega) (by omega)) | replace HX := Lib.hid (Ints.below HX.out hb (by omega))
  first | replace HY := Lib.hid (Ints.only HY.out hb (by omega) (by omega)) | replace HY := Lib.hid (Ints.below HY.out hb (by omega))
  first | replace HB := Lib.hid (Below.trans HB.out (Below.mono hb (by omega))) | replace HB := Lib.hid (Below.trans HB.out (Only.below hb (by omega) (by omega)))
  first | replace HU := Lib.hid (Blk.only HU.out hb (by omega)) | replace HU := Lib.hid (Blk.below HU.out hb (by omega))
  first | replace HV := Lib.hid (Blk.only HV.out hb (by omega)) | replace HV := Lib.hid (Blk.below HV.out hb (by omega))
  clear hb
  have hu0 := HU.out.cell (i := 0) rfl
  have hu1 := HU.out.cell (i := 1) rfl
  have hv0 := HV.out.cell (i := 0) rfl
  have hv1 := HV.out.cell (i := 1) rfl
  go_wp2_with fail
  have h1 := tbeforeS_any i j A1 B1 c1 d1 _ _ _ _ a b w3 HX.out HY.out (by rw [HLa.out]; omega) (by rw [HLb.out]; omega) (by omega) (by omega)
  rw [HLa.out, HLb.out] at h1
  refine h1.mono ?_; rintro e w4 ⟨rfl, hb⟩
  rw [HT.out]
  clear h1 hu0 hu1 hv0 hv1
  have hs4 := hb.size
  first | replace HX := Lib.hid (Ints.only HX.out hb (by omega) (by omega)) | replace HX := Lib.hid (Ints.below HX.out hb (by omega))
  first | replace HY := Lib.hid (Ints.only HY.out hb (by omega) (by omega)) | replace HY := Lib.hid (Ints.below HY.out hb (by omega))
  first | replace HB := Lib.hid (Below.trans HB.out (Below.mono hb (by omega))) | replace HB := Lib.hid (Below.trans HB.out (Only.below hb (by omega) (by omega)))
  first | replace HU := Lib.hid (Blk.only HU.out hb (by omega)) | replace HU := Lib.hid (Blk.below HU.out hb (by omega))
  first | replace HV := Lib.hid (Blk.only HV.out hb (by omega)) | replace HV := Lib.hid (Blk.below HV.out hb (by omega))
  clear hb
  have hu0 := HU.out.cell (i := 0) rfl
  have hu1 := HU.out.cell (i := 1) rfl
  have hv0 := HV.out.cell (i := 0) rfl
  have hv1 := HV.out.cell (i := 1) rfl
  cases t
  · go_wp2_with fail
    go_ret
    exact ⟨by simp, HB.out⟩
  obtain ⟨x, hx⟩ : ∃ x, a.sum = x := ⟨_, rfl⟩
  obtain ⟨y, hy⟩ : ∃ y, b.sum = y := ⟨_, rfl⟩
  have hlt : taskLt i a j b = true := by
    have := HT.out
    simp only [tbeforeB, Bool.and_eq_true] at this
    exact this.2
  have hor : y < x ∨ (x = y ∧ i < j) := by
    simp only [taskLt, hx, hy, Bool.or_eq_true, Bool.and_eq_true, decide_eq_true_eq] at hlt
    exact hlt
  clear hlt
  have h1 := sumOf_any A1 c1 _ _ a w4 HX.out (by rw [HLa.out]; omega) (fun z hz => by have := HZa.out z hz; omega)
  rw [HLa.out, hx] at h1
  have h2 := sumOf_any B1 d1 _ _ b w4 HY.out (by rw [HLb.out]; omega) (fun z hz => by have := HZb.out z hz; omega)
  rw [HLb.out, hy] at h2
  have H1 := Lib.hid h1; clear h1
  have H2 := Lib.hid h2; clear h2
  clear hx hy
  go_wp2_with fail
  refine H1.out.mono ?_; rintro e w' ⟨rfl, rfl⟩
  go_wp2_with fail
  refine H2.out.mono ?_; rintro e w' ⟨rfl, rfl⟩
  rcases hor with hxy | ⟨rfl, hij⟩
  · go_wp2_with fail
    go_ret
    exact ⟨by simp, HB.out⟩
  · go_wp2_with fail
    go_ret
    exact ⟨by simp, HB.out⟩
end Go.Proofs.Ythfhlcmgeacddaa
