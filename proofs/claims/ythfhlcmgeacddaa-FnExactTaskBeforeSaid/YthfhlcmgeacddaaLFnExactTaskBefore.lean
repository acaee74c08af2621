/- The walk of one statement: by the contracts of what it calls it returns true and changes nothing that was there. No condition. -/
import Derived.Test.YthfhlcmgeacddaaTe
import Derived.Test.YthfhlcmgeacddaaTk
namespace Go.Proofs.Ythfhlcmgeacddaa
open Go.RowKit
set_option maxHeartbeats 2000000 in
theorem FnExactTaskBefore_walk (i : Int) (A : Option Addr) (c : Nat) (ya : List Int) (j : Int) (B : Option Addr) (d : Nat) (yb : List Int) (w : World) (hA : IntsR w w.heap.size A ya) (hB : IntsR w w.heap.size B yb) (hma : ya.length ≤ maxLen) (hmb : yb.length ≤ maxLen) :
    Calls Try.prog 5 #[.agg #[.int .i64 i, .slice A ya.length c], .agg #[.int .i64 j, .slice B yb.length d]] w fun e w' => e = .returned (.bool true) ∧ Below w.heap.size w w' := by
  have HA := Lib.hid hA; clear hA
  have HC := Lib.hid hB; clear hB
  obtain ⟨na, hna⟩ : ∃ n, ya.length = n := ⟨_, rfl⟩
  obtain ⟨nb, hnb⟩ : ∃ n, yb.length = n := ⟨_, rfl⟩
  have HNa := Lib.hid hna
  have HNb := Lib.hid hnb
  rw [hna] at hma ⊢
  rw [hnb] at hmb ⊢
  clear hna hnb
  obtain ⟨u, hu⟩ : ∃ u, szv 1048576 na = u := ⟨_, rfl⟩
  have hub := szv_bd (left := 1048576) (n := na) (by omega)
  rw [hu] at hub
  have HU := Lib.hid hu; clear hu
  go_enter Try.func5, Try.ntmps5
  go_wp2_with fail
  obtain ⟨w0, hw0⟩ : ∃ W, W = (w.alloc (.cells #[.int .i64 i, .slice A na c] 32)).alloc (.cells #[.int .i64 j, .slice B nb d] 32) := ⟨_, rfl⟩
  rw [← hw0]
  have hb : Below w.heap.size w w0 := by rw [hw0]; exact ((Below.refl _ _).alloc (Nat.le_refl _) _).alloc (by simp) _
  have HB := Lib.hid hb
  have HP : Hid (Blk w0 w.heap.size 32 [.int .i64 i, .slice A na c]) := Lib.hid (by rw [hw0]; exact (Blk.new w _ _).alloc _)
  have HQ : Hid (Blk w0 (w.heap.size + 1) 32 [.int .i64 j, .slice B nb d]) := Lib.hid (by rw [hw0]; simpa using Blk.new (w.alloc (.cells #[.int .i64 i, .slice A na c] 32)) 32 [.int .i64 j, .slice B nb d])
  obtain ⟨ha0, hb0⟩ := le_le (show w0.heap.size = w.heap.size + 2 by rw [hw0]; simp)
  first | replace HA := Lib.hid (IntsR.below HA.out hb (by omega)) | replace HA := Lib.hid (IntsR.below HA.out (Only.below hb (by omega) (by omega)) (by omega))
  first | replace HC := Lib.hid (IntsR.below HC.out hb (by omega)) | replace HC := Lib.hid (IntsR.below HC.out (Only.below hb (by omega) (by omega)) (by omega))
  clear hb hw0
  have h1 := szTask_any i A na c 1048576 w0 (by omega) hma
  rw [HU.out] at h1
  refine h1.mono ?_; rintro e w1 ⟨rfl, hb⟩
  clear h1
  first | replace HA := Lib.hid (IntsR.below HA.out hb (by omega)) | replace HA := Lib.hid (IntsR.below HA.out (Only.below hb (by omega) (by omega)) (by omega))
  first | replace HC := Lib.hid (IntsR.below HC.out hb (by omega)) | replace HC := Lib.hid (IntsR.below HC.out (Only.below hb (by omega) (by omega)) (by omega))
  first | replace HB := Lib.hid (Below.trans HB.out (Below.mono hb (by omega))) | replace HB := Lib.hid (Below.trans HB.out (Only.below hb (by omega) (by omega)))
  first | replace HP := Lib.hid (Blk.only HP.out hb (by omega)) | replace HP := Lib.hid (Blk.below HP.out hb (by omega))
  first | replace HQ := Lib.hid (Blk.only HQ.out hb (by omega)) | replace HQ := Lib.hid (Blk.below HQ.out hb (by omega))
  have hs1 := hb.size; clear hb
  have hp0 := HP.out.cell (i := 0) rfl
  have hp1 := HP.out.cell (i := 1) rfl
  have hq0 := HQ.out.cell (i := 0) rfl
  have hq1 := HQ.out.cell (i := 1) rfl
  by_cases hu0 : u < 0
  · go_wp2_with fail
    go_ret
    exact ⟨by simp, HB.out⟩
  have hla : na ≤ 1048576 := by
    have h := HU.out
    have := szv_hi (left := 1048576) (n := na) (by rw [h]; exact hu0)
    omega
  go_wp2_with fail
  obtain ⟨v, hv⟩ : ∃ v, szv u nb = v := ⟨_, rfl⟩
  have HV := Lib.hid hv; clear hv
  have h1 := szTask_any j B nb d u w1 (by omega) hmb
  rw [HV.out] at h1
  refine h1.mono ?_; rintro e w2 ⟨rfl, hb⟩
  clear h1 hp0 hp1 hq0 hq1
  first | replace HA := Lib.hid (IntsR.below HA.out hb (by omega)) | replace HA := Lib.hid (IntsR.below HA.out (Only.below hb (by omega) (by omega)) (by omega))
  first | replace HC := Lib.hid (IntsR.below HC.out hb (by omega)) | replace HC := Lib.hid (IntsR.below HC.out (Only.below hb (by omega) (by omega)) (by omega))
  first | replace HB := Lib.hid (Below.trans HB.out (Below.mono hb (by omega))) | replace HB := Lib.hid (Below.trans HB.out (Only.below hb (by omega) (by omega)))
  first | replace HP := Lib.hid (Blk.only HP.out hb (by omega)) | replace HP := Lib.hid (Blk.below HP.out hb (by omega))
  first | replace HQ := Lib.hid (Blk.only HQ.out hb (by omega)) | replace HQ := Lib.hid (Blk.below HQ.out hb (by omega))
  have hs2 := hb.size; clear hb
  by_cases hv0 : v < 0
  · go_wp2_with fail
    go_ret
    exact ⟨by simp, HB.out⟩
  have hlb : nb ≤ 1048576 := by
    have h := HV.out
    have := szv_hi (left := u) (n := nb) (by rw [h]; exact hv0)
    omega
  have hla' : ya.length ≤ 1048576 := by rw [HNa.out]; exact hla
  have hlb' : yb.length ≤ 1048576 := by rw [HNb.out]; exact hlb
  have HTa : ∀ W, IntsR W w.heap.size A ya → w.heap.size ≤ W.heap.size → Calls Try.prog 21 #[.agg #[.int .i64 i, .slice A na c]] W fun e w' => ∃ A1 c1, e = .returned (.agg #[.int .i64 i, .slice A1 na c1]) ∧ Ints w' W.heap.size w'.heap.size A1 c1 ya ∧ Below W.heap.size W w' := by
    intro W h1 h2
    have := toTask_any i A c _ ya W h1 hla' h2
    rw [HNa.out] at this
    refine this.mono ?_
    rintro e w' ⟨A1, c1, rfl, hI, hb⟩
    exact ⟨A1, c1, by rw [HNa.out], hI, hb⟩
  have HTb : ∀ W, IntsR W w.heap.size B yb → w.heap.size ≤ W.heap.size → Calls Try.prog 21 #[.agg #[.int .i64 j, .slice B nb d]] W fun e w' => ∃ A1 c1, e = .returned (.agg #[.int .i64 j, .slice A1 nb c1]) ∧ Ints w' W.heap.size w'.heap.size A1 c1 yb ∧ Below W.heap.size W w' := by
    intro W h1 h2
    have := toTask_any j B d _ yb W h1 hlb' h2
    rw [HNb.out] at this
    refine this.mono ?_
    rintro e w' ⟨A1, c1, rfl, hI, hb⟩
    exact ⟨A1, c1, by rw [HNb.out], hI, hb⟩
  have HTa := Lib.hid HTa
  have HTb := Lib.hid HTb
  obtain ⟨t, ht⟩ : ∃ t, tbeforeB i ya j yb = t := ⟨_, rfl⟩
  have HT := Lib.hid ht; clear ht
  replace HA : Hid (IntsR w2.drew w.heap.size A ya) := HA
  replace HC : Hid (IntsR w2.drew w.heap.size B yb) := HC
  replace HB : Hid (Below w.heap.size w w2.drew) := Lib.hid HB.out.drew
  replace HP : Hid (Blk w2.drew w.heap.size 32 [.int .i64 i, .slice A na c]) := HP
  replace HQ : Hid (Blk w2.drew (w.heap.size + 1) 32 [.int .i64 j, .slice B nb d]) := HQ
  have hs3 : w2.heap.size ≤ w2.drew.heap.size := Nat.le_refl _
  have hs4 : w2.drew.heap.size ≤ w2.heap.size := Nat.le_refl _
  have hp0 := HP.out.cell (i := 0) rfl
  have hp1 := HP.out.cell (i := 1) rfl
  have hq0 := HQ.out.cell (i := 0) rfl
  have hq1 := HQ.out.cell (i := 1) rfl
  go_wp2_with fail
  go_region_held3 (fun w' => w'.cell? ⟨w.heap.size, 0, none⟩ = some (.int .i64 i) ∧ w'.cell? ⟨w.heap.size, 1, none⟩ = some (.slice A na c) ∧ w'.cell? ⟨w.heap.size + 1, 0, none⟩ = some (.int .i64 j) ∧ w'.cell? ⟨w.heap.size + 1, 1, none⟩ = some (.slice B nb d))
    (go_keep)
    (first
      | (go_at_call 21; first
          | ((with_reducible refine (HTa.out _ HA.out (by omega)).mono ?_); rintro e w3 ⟨A1, c1, rfl, hI, hb⟩; have HX := Lib.hid hI; clear hI; (first | replace HA := Lib.hid (IntsR.below HA.out hb (by omega)) | replace HA := Lib.hid (IntsR.below HA.out (Only.below hb (by omega) (by omega)) (by omega))); (first | replace HC := Lib.hid (IntsR.below HC.out hb (by omega)) | replace HC := Lib.hid (IntsR.below HC.out (Only.below hb (by omega) (by omega)) (by omega))); (first | replace HB := Lib.hid (Below.trans HB.out (Below.mono hb (by omega))) | replace HB := Lib.hid (Below.trans HB.out (Only.below hb (by omega) (by omega)))); (first | replace HP := Lib.hid (Blk.only HP.out hb (by omega)) | replace HP := Lib.hid (Blk.below HP.out hb (by omega))); (first | replace HQ := Lib.hid (Blk.only HQ.out hb (by omega)) | replace HQ := Lib.hid (Blk.below HQ.out hb (by omega))); have hs5 := hb.size; clear hb hp0 hp1 hq0 hq1; have hp0 := HP.out.cell (i := 0) rfl; have hp1 := HP.out.cell (i := 1) rfl; have hq0 := HQ.out.cell (i := 0) rfl; have hq1 := HQ.out.cell (i := 1) rfl)
          | ((with_reducible refine (HTb.out _ HC.out (by omega)).mono ?_); rintro e w4 ⟨B1, d1, rfl, hI, hb⟩; have HY := Lib.hid hI; clear hI; (first | replace HA := Lib.hid (IntsR.below HA.out hb (by omega)) | replace HA := Lib.hid (IntsR.below HA.out (Only.below hb (by omega) (by omega)) (by omega))); (first | replace HC := Lib.hid (IntsR.below HC.out hb (by omega)) | replace HC := Lib.hid (IntsR.below HC.out (Only.below hb (by omega) (by omega)) (by omega))); (first | replace HB := Lib.hid (Below.trans HB.out (Below.mono hb (by omega))) | replace HB := Lib.hid (Below.trans HB.out (Only.below hb (by omega) (by omega)))); (first | replace HP := Lib.hid (Blk.only HP.out hb (by omega)) | replace HP := Lib.hid (Blk.below HP.out hb (by omega))); (first | replace HQ := Lib.hid (Blk.only HQ.out hb (by omega)) | replace HQ := Lib.hid (Blk.below HQ.out hb (by omega))); (first | replace HX := Lib.hid (Ints.only HX.out hb (by omega) (by omega)) | replace HX := Lib.hid (Ints.below HX.out hb (by omega))); have hs6 := hb.size; clear hb hp0 hp1 hq0 hq1; have hp0 := HP.out.cell (i := 0) rfl; have hp1 := HP.out.cell (i := 1) rfl; have hq0 := HQ.out.cell (i := 0) rfl; have hq1 := HQ.out.cell (i := 1) rfl))
      | (go_at_call 17; have h1 := tbeforeS_any i j A1 B1 c1 d1 _ _ _ _ ya yb w4 HX.out HY.out hla' hlb' (by omega) (by omega); rw [HNa.out, HNb.out, HT.out] at h1; refine h1.mono ?_; rintro e w5 ⟨rfl, hb⟩; (first | replace HA := Lib.hid (IntsR.below HA.out hb (by omega)) | replace HA := Lib.hid (IntsR.below HA.out (Only.below hb (by omega) (by omega)) (by omega))); (first | replace HC := Lib.hid (IntsR.below HC.out hb (by omega)) | replace HC := Lib.hid (IntsR.below HC.out (Only.below hb (by omega) (by omega)) (by omega))); (first | replace HB := Lib.hid (Below.trans HB.out (Below.mono hb (by omega))) | replace HB := Lib.hid (Below.trans HB.out (Only.below hb (by omega) (by omega)))); (first | replace HP := Lib.hid (Blk.only HP.out hb (by omega)) | replace HP := Lib.hid (Blk.below HP.out hb (by omega))); (first | replace HQ := Lib.hid (Blk.only HQ.out hb (by omega)) | replace HQ := Lib.hid (Blk.below HQ.out hb (by omega))); have hs7 := hb.size; clear h1 hb hp0 hp1 hq0 hq1 HX HY; have hp0 := HP.out.cell (i := 0) rfl; have hp1 := HP.out.cell (i := 1) rfl; have hq0 := HQ.out.cell (i := 0) rfl; have hq1 := HQ.out.cell (i := 1) rfl))
  go_wp2_with fail
  refine (HTa.out _ HA.out (by omega)).mono ?_; rintro e w6 ⟨A1, c1, rfl, hI, hb⟩
  have HX := Lib.hid hI; clear hI; (first | replace HA := Lib.hid (IntsR.below HA.out hb (by omega)) | replace HA := Lib.hid (IntsR.below HA.out (Only.below hb (by omega) (by omega)) (by omega))); (first | replace HC := Lib.hid (IntsR.below HC.out hb (by omega)) | replace HC := Lib.hid (IntsR.below HC.out (Only.below hb (by omega) (by omega)) (by omega))); (first | replace HB := Lib.hid (Below.trans HB.out (Below.mono hb (by omega))) | replace HB := Lib.hid (Below.trans HB.out (Only.below hb (by omega) (by omega)))); (first | replace HP := Lib.hid (Blk.only HP.out hb (by omega)) | replace HP := Lib.hid (Blk.below HP.out hb (by omega))); (first | replace HQ := Lib.hid (Blk.only HQ.out hb (by omega)) | replace HQ := Lib.hid (Blk.below HQ.out hb (by omega)))
  have hs8 := hb.size; clear hb hp0 hp1 hq0 hq1
  have hp0 := HP.out.cell (i := 0) rfl; have hp1 := HP.out.cell (i := 1) rfl; have hq0 := HQ.out.cell (i := 0) rfl; have hq1 := HQ.out.cell (i := 1) rfl
  have hq0' := (HQ.out.alloc (.cells #[.int .i64 i, .slice A1 na c1] 25)).cell (i := 0) rfl
  have hq1' := (HQ.out.alloc (.cells #[.int .i64 i, .slice A1 na c1] 25)).cell (i := 1) rfl
  go_wp2_with fail
  clear hq0' hq1'
  obtain ⟨w7, hw7⟩ : ∃ W, W = w6.alloc (.cells #[.int .i64 i, .slice A1 na c1] 25) := ⟨_, rfl⟩
  rw [← hw7]
  have hb : Below w6.heap.size w6 w7 := by rw [hw7]; exact (Below.refl _ _).alloc (Nat.le_refl _) _
  have HK : Hid (Blk w7 w6.heap.size 25 [.int .i64 i, .slice A1 na c1]) := Lib.hid (by rw [hw7]; exact Blk.new w6 _ _)
  obtain ⟨ha7, hb7⟩ := le_le (show w7.heap.size = w6.heap.size + 1 by rw [hw7]; simp)
  first | replace HA := Lib.hid (IntsR.below HA.out hb (by omega)) | replace HA := Lib.hid (IntsR.below HA.out (Only.below hb (by omega) (by omega)) (by omega))
  first | replace HC := Lib.hid (IntsR.below HC.out hb (by omega)) | replace HC := Lib.hid (IntsR.below HC.out (Only.below hb (by omega) (by omega)) (by omega))
  first | replace HB := Lib.hid (Below.trans HB.out (Below.mono hb (by omega))) | replace HB := Lib.hid (Below.trans HB.out (Only.below hb (by omega) (by omega)))
  first | replace HP := Lib.hid (Blk.only HP.out hb (by omega)) | replace HP := Lib.hid (Blk.below HP.out hb (by omega))
  first | replace HQ := Lib.hid (Blk.only HQ.out hb (by omega)) | replace HQ := Lib.hid (Blk.below HQ.out hb (by omega))
  first | replace HX := Lib.hid (Ints.only HX.out hb (by omega) (by omega)) | replace HX := Lib.hid (Ints.below HX.out hb (by omega))
  clear hb hw7 hp0 hp1 hq0 hq1
  have hp0 := HP.out.cell (i := 0) rfl; have hp1 := HP.out.cell (i := 1) rfl; have hq0 := HQ.out.cell (i := 0) rfl; have hq1 := HQ.out.cell (i := 1) rfl
  refine (HTb.out _ HC.out (by omega)).mono ?_; rintro e w8 ⟨B1, d1, rfl, hI, hb⟩
  have HY := Lib.hid hI; clear hI; (first | replace HA := Lib.hid (IntsR.below HA.out hb (by omega)) | replace HA := Lib.hid (IntsR.below HA.out (Only.below hb (by omega) (by omega)) (by omega))); (first | replace HC := Lib.hid (IntsR.below HC.out hb (by omega)) | replace HC := Lib.hid (IntsR.below HC.out (Only.below hb (by omega) (by omega)) (by omega))); (first | replace HB := Lib.hid (Below.trans HB.out (Below.mono hb (by omega))) | replace HB := Lib.hid (Below.trans HB.out (Only.below hb (by omega) (by omega)))); (first | replace HP := Lib.hid (Blk.only HP.out hb (by omega)) | replace HP := Lib.hid (Blk.below HP.out hb (by omega))); (first | replace HQ := Lib.hid (Blk.only HQ.out hb (by omega)) | replace HQ := Lib.hid (Blk.below HQ.out hb (by omega))); (first | replace HX := Lib.hid (Ints.only HX.out hb (by omega) (by omega)) | replace HX := Lib.hid (Ints.below HX.out hb (by omega))); (first | replace HK := Lib.hid (Blk.only HK.out hb (by omega)) | replace HK := Lib.hid (Blk.below HK.out hb (by omega)))
  have hs9 := hb.size; clear hb hp0 hp1 hq0 hq1
  have hp0 := HP.out.cell (i := 0) rfl; have hp1 := HP.out.cell (i := 1) rfl; have hq0 := HQ.out.cell (i := 0) rfl; have hq1 := HQ.out.cell (i := 1) rfl
  have hk0' := (HK.out.alloc (.cells #[.int .i64 j, .slice B1 nb d1] 25)).cell (i := 0) rfl
  have hk1' := (HK.out.alloc (.cells #[.int .i64 j, .slice B1 nb d1] 25)).cell (i := 1) rfl
  go_wp2_with fail
  clear hk0' hk1'
  obtain ⟨w9, hw9⟩ : ∃ W, W = w8.alloc (.cells #[.int .i64 j, .slice B1 nb d1] 25) := ⟨_, rfl⟩
  rw [← hw9]
  have hb : Below w8.heap.size w8 w9 := by rw [hw9]; exact (Below.refl _ _).alloc (Nat.le_refl _) _
  have HL : Hid (Blk w9 w8.heap.size 25 [.int .i64 j, .slice B1 nb d1]) := Lib.hid (by rw [hw9]; exact Blk.new w8 _ _)
  obtain ⟨ha9, hb9⟩ := le_le (show w9.heap.size = w8.heap.size + 1 by rw [hw9]; simp)
  first | replace HA := Lib.hid (IntsR.below HA.out hb (by omega)) | replace HA := Lib.hid (IntsR.below HA.out (Only.below hb (by omega) (by omega)) (by omega))
  first | replace HC := Lib.hid (IntsR.below HC.out hb (by omega)) | replace HC := Lib.hid (IntsR.below HC.out (Only.below hb (by omega) (by omega)) (by omega))
  first | replace HB := Lib.hid (Below.trans HB.out (Below.mono hb (by omega))) | replace HB := Lib.hid (Below.trans HB.out (Only.below hb (by omega) (by omega)))
  first | replace HP := Lib.hid (Blk.only HP.out hb (by omega)) | replace HP := Lib.hid (Blk.below HP.out hb (by omega))
  first | replace HQ := Lib.hid (Blk.only HQ.out hb (by omega)) | replace HQ := Lib.hid (Blk.below HQ.out hb (by omega))
  first | replace HX := Lib.hid (Ints.only HX.out hb (by omega) (by omega)) | replace HX := Lib.hid (Ints.below HX.out hb (by omega))
  first | replace HK := Lib.hid (Blk.only HK.out hb (by omega)) | replace HK := Lib.hid (Blk.below HK.out hb (by omega))
  first | replace HY := Lib.hid (Ints.only HY.out hb (by omega) (by omega)) | replace HY := Lib.hid (Ints.below HY.out hb (by omega))
  clear hb hw9 hp0 hp1 hq0 hq1
  have hk0 := HK.out.cell (i := 0) rfl
  have hk1 := HK.out.cell (i := 1) rfl
  have hl0 := HL.out.cell (i := 0) rfl
  have hl1 := HL.out.cell (i := 1) rfl
  have hp0 := HP.out.cell (i := 0) rfl; have hp1 := HP.out.cell (i := 1) rfl; have hq0 := HQ.out.cell (i := 0) rfl; have hq1 := HQ.out.cell (i := 1) rfl
  have h1 := tbefore_any i j A1 B1 c1 d1 _ _ _ _ ya yb w9 HX.out HY.out hla' hlb' (by omega) (by omega)
  rw [HNa.out, HNb.out, HT.out] at h1
  refine h1.mono ?_; rintro e w10 ⟨rfl, hb⟩
  first | replace HA := Lib.hid (IntsR.below HA.out hb (by omega)) | replace HA := Lib.hid (IntsR.below HA.out (Only.below hb (by omega) (by omega)) (by omega))
  first | replace HC := Lib.hid (IntsR.below HC.out hb (by omega)) | replace HC := Lib.hid (IntsR.below HC.out (Only.below hb (by omega) (by omega)) (by omega))
  first | replace HB := Lib.hid (Below.trans HB.out (Below.mono hb (by omega))) | replace HB := Lib.hid (Below.trans HB.out (Only.below hb (by omega) (by omega)))
  first | replace HP := Lib.hid (Blk.only HP.out hb (by omega)) | replace HP := Lib.hid (Blk.below HP.out hb (by omega))
  first | replace HQ := Lib.hid (Blk.only HQ.out hb (by omega)) | replace HQ := Lib.hid (Blk.below HQ.out hb (by omega))
  first | replace HX := Lib.hid (Ints.only HX.out hb (by omega) (by omega)) | replace HX := Lib.hid (Ints.below HX.out hb (by omega))
  first | replace HY := Lib.hid (Ints.only HY.out hb (by omega) (by omega)) | replace HY := Lib.hid (Ints.below HY.out hb (by omega))
  first | replace HK := Lib.hid (Blk.only HK.out hb (by omega)) | replace HK := Lib.hid (Blk.below HK.out hb (by omega))
  first | replace HL := Lib.hid (Blk.only HL.out hb (by omega)) | replace HL := Lib.hid (Blk.below HL.out hb (by omega))
  have hs10 := hb.size; clear h1
  clear hb hp0 hp1 hq0 hq1 hk0 hk1 hl0 hl1
  have hp0 := HP.out.cell (i := 0) rfl; have hp1 := HP.out.cell (i := 1) rfl; have hq0 := HQ.out.cell (i := 0) rfl; have hq1 := HQ.out.cell (i := 1) rfl
  have hk0 := HK.out.cell (i := 0) rfl; have hk1 := HK.out.cell (i := 1) rfl; have hl0 := HL.out.cell (i := 0) rfl; have hl1 := HL.out.cell (i := 1) rfl
  replace HA : Hid (IntsR w10.drew w.heap.size A ya) := HA
  replace HC : Hid (IntsR w10.drew w.heap.size B yb) := HC
  replace HB : Hid (Below w.heap.size w w10.drew) := Lib.hid HB.out.drew
  replace HP : Hid (Blk w10.drew w.heap.size 32 [.int .i64 i, .slice A na c]) := HP
  replace HQ : Hid (Blk w10.drew (w.heap.size + 1) 32 [.int .i64 j, .slice B nb d]) := HQ
  replace HK : Hid (Blk w10.drew w6.heap.size 25 [.int .i64 i, .slice A1 na c1]) := HK
  replace HL : Hid (Blk w10.drew w8.heap.size 25 [.int .i64 j, .slice B1 nb d1]) := HL
  replace HX := Lib.hid (HX.out.drewN 1)
  replace HY := Lib.hid (HY.out.drewN 1)
  have hdr : w10.heap.size ≤ w10.drew.heap.size ∧ w10.drew.heap.size ≤ w10.heap.size := ⟨Nat.le_refl _, Nat.le_refl _⟩
  go_wp2_with fail
  go_region_held3 (fun w' => w'.cell? ⟨w.heap.size, 0, none⟩ = some (.int .i64 i) ∧ w'.cell? ⟨w.heap.size, 1, none⟩ = some (.slice A na c) ∧ w'.cell? ⟨w6.heap.size, 0, none⟩ = some (.int .i64 i) ∧ w'.cell? ⟨w6.heap.size, 1, none⟩ = some (.slice A1 na c1))
    (go_keep)
    (first
      | (go_at_call 21; (with_reducible refine (HTa.out _ HA.out (by omega)).mono ?_); rintro e w11 ⟨A2, c2, rfl, hI, hb⟩; have HI := Lib.hid hI; clear hI; (first | replace HA := Lib.hid (IntsR.below HA.out hb (by omega)) | replace HA := Lib.hid (IntsR.below HA.out (Only.below hb (by omega) (by omega)) (by omega))); (first | replace HC := Lib.hid (IntsR.below HC.out hb (by omega)) | replace HC := Lib.hid (IntsR.below HC.out (Only.below hb (by omega) (by omega)) (by omega))); (first | replace HB := Lib.hid (Below.trans HB.out (Below.mono hb (by omega))) | replace HB := Lib.hid (Below.trans HB.out (Only.below hb (by omega) (by omega)))); (first | replace HP := Lib.hid (Blk.only HP.out hb (by omega)) | replace HP := Lib.hid (Blk.below HP.out hb (by omega))); (first | replace HQ := Lib.hid (Blk.only HQ.out hb (by omega)) | replace HQ := Lib.hid (Blk.below HQ.out hb (by omega))); (first | replace HX := Lib.hid (Ints.only HX.out hb (by omega) (by omega)) | replace HX := Lib.hid (Ints.below HX.out hb (by omega))); (first | replace HY := Lib.hid (Ints.only HY.out hb (by omega) (by omega)) | replace HY := Lib.hid (Ints.below HY.out hb (by omega))); (first | replace HK := Lib.hid (Blk.only HK.out hb (by omega)) | replace HK := Lib.hid (Blk.below HK.out hb (by omega))); (first | replace HL := Lib.hid (Blk.only HL.out hb (by omega)) | replace HL := Lib.hid (Blk.below HL.out hb (by omega))); have hs5 := hb.size; clear hb hp0 hp1 hq0 hq1 hk0 hk1 hl0 hl1; have hp0 := HP.out.cell (i := 0) rfl; have hp1 := HP.out.cell (i := 1) rfl; have hq0 := HQ.out.cell (i := 0) rfl; have hq1 := HQ.out.cell (i := 1) rfl; have hk0 := HK.out.cell (i := 0) rfl; have hk1 := HK.out.cell (i := 1) rfl; have hl0 := HL.out.cell (i := 0) rfl; have hl1 := HL.out.cell (i := 1) rfl)
      | (go_at_call 22; have h1 := eqTask_eq i A1 A2 c1 c2 _ _ _ _ ya w11 HX.out HI.out (by omega) (by omega) (by omega); rw [HNa.out] at h1; refine h1.mono ?_; rintro e w12 ⟨rfl, hb⟩; (first | replace HA := Lib.hid (IntsR.below HA.out hb (by omega)) | replace HA := Lib.hid (IntsR.below HA.out (Only.below hb (by omega) (by omega)) (by omega))); (first | replace HC := Lib.hid (IntsR.below HC.out hb (by omega)) | replace HC := Lib.hid (IntsR.below HC.out (Only.below hb (by omega) (by omega)) (by omega))); (first | replace HB := Lib.hid (Below.trans HB.out (Below.mono hb (by omega))) | replace HB := Lib.hid (Below.trans HB.out (Only.below hb (by omega) (by omega)))); (first | replace HP := Lib.hid (Blk.only HP.out hb (by omega)) | replace HP := Lib.hid (Blk.below HP.out hb (by omega))); (first | replace HQ := Lib.hid (Blk.only HQ.out hb (by omega)) | replace HQ := Lib.hid (Blk.below HQ.out hb (by omega))); (first | replace HX := Lib.hid (Ints.only HX.out hb (by omega) (by omega)) | replace HX := Lib.hid (Ints.below HX.out hb (by omega))); (first | replace HY := Lib.hid (Ints.only HY.out hb (by omega) (by omega)) | replace HY := Lib.hid (Ints.below HY.out hb (by omega))); (first | replace HK := Lib.hid (Blk.only HK.out hb (by omega)) | replace HK := Lib.hid (Blk.below HK.out hb (by omega))); (first | replace HL := Lib.hid (Blk.only HL.out hb (by omega)) | replace HL := Lib.hid (Blk.below HL.out hb (by omega))); have hs6 := hb.size; clear h1 HI; clear hb hp0 hp1 hq0 hq1 hk0 hk1 hl0 hl1; have hp0 := HP.out.cell (i := 0) rfl; have hp1 := HP.out.cell (i := 1) rfl; have hq0 := HQ.out.cell (i := 0) rfl; have hq1 := HQ.out.cell (i := 1) rfl; have hk0 := HK.out.cell (i := 0) rfl; have hk1 := HK.out.cell (i := 1) rfl; have hl0 := HL.out.cell (i := 0) rfl; have hl1 := HL.out.cell (i := 1) rfl))
  replace HA : Hid (IntsR w12.drew w.heap.size A ya) := HA
  replace HC : Hid (IntsR w12.drew w.heap.size B yb) := HC
  replace HB : Hid (Below w.heap.size w w12.drew) := Lib.hid HB.out.drew
  replace HP : Hid (Blk w12.drew w.heap.size 32 [.int .i64 i, .slice A na c]) := HP
  replace HQ : Hid (Blk w12.drew (w.heap.size + 1) 32 [.int .i64 j, .slice B nb d]) := HQ
  replace HK : Hid (Blk w12.drew w6.heap.size 25 [.int .i64 i, .slice A1 na c1]) := HK
  replace HL : Hid (Blk w12.drew w8.heap.size 25 [.int .i64 j, .slice B1 nb d1]) := HL
  replace HX := Lib.hid (HX.out.drewN 1)
  replace HY := Lib.hid (HY.out.drewN 1)
  have hdr2 : w12.heap.size ≤ w12.drew.heap.size ∧ w12.drew.heap.size ≤ w12.heap.size := ⟨Nat.le_refl _, Nat.le_refl _⟩
  go_wp2_with fail
  go_region_held3 (fun w' => w'.cell? ⟨w.heap.size + 1, 0, none⟩ = some (.int .i64 j) ∧ w'.cell? ⟨w.heap.size + 1, 1, none⟩ = some (.slice B nb d) ∧ w'.cell? ⟨w8.heap.size, 0, none⟩ = some (.int .i64 j) ∧ w'.cell? ⟨w8.heap.size, 1, none⟩ = some (.slice B1 nb d1))
    (go_keep)
    (first
      | (go_at_call 21; (with_reducible refine (HTb.out _ HC.out (by omega)).mono ?_); rintro e w13 ⟨A2, c2, rfl, hI, hb⟩; have HI := Lib.hid hI; clear hI; (first | replace HA := Lib.hid (IntsR.below HA.out hb (by omega)) | replace HA := Lib.hid (IntsR.below HA.out (Only.below hb (by omega) (by omega)) (by omega))); (first | replace HC := Lib.hid (IntsR.below HC.out hb (by omega)) | replace HC := Lib.hid (IntsR.below HC.out (Only.below hb (by omega) (by omega)) (by omega))); (first | replace HB := Lib.hid (Below.trans HB.out (Below.mono hb (by omega))) | replace HB := Lib.hid (Below.trans HB.out (Only.below hb (by omega) (by omega)))); (first | replace HP := Lib.hid (Blk.only HP.out hb (by omega)) | replace HP := Lib.hid (Blk.below HP.out hb (by omega))); (first | replace HQ := Lib.hid (Blk.only HQ.out hb (by omega)) | replace HQ := Lib.hid (Blk.below HQ.out hb (by omega))); (first | replace HX := Lib.hid (Ints.only HX.out hb (by omega) (by omega)) | replace HX := Lib.hid (Ints.below HX.out hb (by omega))); (first | replace HY := Lib.hid (Ints.only HY.out hb (by omega) (by omega)) | replace HY := Lib.hid (Ints.below HY.out hb (by omega))); (first | replace HK := Lib.hid (Blk.only HK.out hb (by omega)) | replace HK := Lib.hid (Blk.below HK.out hb (by omega))); (first | replace HL := Lib.hid (Blk.only HL.out hb (by omega)) | replace HL := Lib.hid (Blk.below HL.out hb (by omega))); have hs15 := hb.size; clear hb hp0 hp1 hq0 hq1 hk0 hk1 hl0 hl1; have hp0 := HP.out.cell (i := 0) rfl; have hp1 := HP.out.cell (i := 1) rfl; have hq0 := HQ.out.cell (i := 0) rfl; have hq1 := HQ.out.cell (i := 1) rfl; have hk0 := HK.out.cell (i := 0) rfl; have hk1 := HK.out.cell (i := 1) rfl; have hl0 := HL.out.cell (i := 0) rfl; have hl1 := HL.out.cell (i := 1) rfl)
      | (go_at_call 22; have h1 := eqTask_eq j B1 A2 d1 c2 _ _ _ _ yb w13 HY.out HI.out (by omega) (by omega) (by omega); rw [HNb.out] at h1; refine h1.mono ?_; rintro e w14 ⟨rfl, hb⟩; (first | replace HA := Lib.hid (IntsR.below HA.out hb (by omega)) | replace HA := Lib.hid (IntsR.below HA.out (Only.below hb (by omega) (by omega)) (by omega))); (first | replace HC := Lib.hid (IntsR.below HC.out hb (by omega)) | replace HC := Lib.hid (IntsR.below HC.out (Only.below hb (by omega) (by omega)) (by omega))); (first | replace HB := Lib.hid (Below.trans HB.out (Below.mono hb (by omega))) | replace HB := Lib.hid (Below.trans HB.out (Only.below hb (by omega) (by omega)))); (first | replace HP := Lib.hid (Blk.only HP.out hb (by omega)) | replace HP := Lib.hid (Blk.below HP.out hb (by omega))); (first | replace HQ := Lib.hid (Blk.only HQ.out hb (by omega)) | replace HQ := Lib.hid (Blk.below HQ.out hb (by omega))); (first | replace HX := Lib.hid (Ints.only HX.out hb (by omega) (by omega)) | replace HX := Lib.hid (Ints.below HX.out hb (by omega))); (first | replace HY := Lib.hid (Ints.only HY.out hb (by omega) (by omega)) | replace HY := Lib.hid (Ints.below HY.out hb (by omega))); (first | replace HK := Lib.hid (Blk.only HK.out hb (by omega)) | replace HK := Lib.hid (Blk.below HK.out hb (by omega))); (first | replace HL := Lib.hid (Blk.only HL.out hb (by omega)) | replace HL := Lib.hid (Blk.below HL.out hb (by omega))); have hs16 := hb.size; clear h1 HI; clear hb hp0 hp1 hq0 hq1 hk0 hk1 hl0 hl1; have hp0 := HP.out.cell (i := 0) rfl; have hp1 := HP.out.cell (i := 1) rfl; have hq0 := HQ.out.cell (i := 0) rfl; have hq1 := HQ.out.cell (i := 1) rfl; have hk0 := HK.out.cell (i := 0) rfl; have hk1 := HK.out.cell (i := 1) rfl; have hl0 := HL.out.cell (i := 0) rfl; have hl1 := HL.out.cell (i := 1) rfl))
  go_wp2_with fail
  go_ret
  exact ⟨by simp, HB.out⟩
end Go.Proofs.Ythfhlcmgeacddaa
