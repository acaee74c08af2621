/- The walk of one exact statement: by the contracts of what it calls it returns true and changes nothing that was there. No condition. -/
import Derived.Test.YthfhlcmgeacddaaTe
import Derived.Test.YthfhlcmgeacddaaTc
namespace Go.Proofs.Ythfhlcmgeacddaa
open Go.RowKit
set_option maxHeartbeats 4000000 in
theorem FnExactTasksClash_walk (R : Option Addr) (r : Nat) (yr : List Int) (i : Int) (A : Option Addr) (c : Nat) (ya : List Int) (j : Int) (B : Option Addr) (d : Nat) (yb : List Int) (w : World) (hR : IntsR w w.heap.size R yr) (hA : IntsR w w.heap.size A ya) (hB : IntsR w w.heap.size B yb) (hmr : yr.length ≤ maxLen) (hma : ya.length ≤ maxLen) (hmb : yb.length ≤ maxLen) (hwi : (Lit.int .i64 i).wf = true) (hwj : (Lit.int .i64 j).wf = true) :
    Calls Try.prog 8 #[.slice R yr.length r, .agg #[.int .i64 i, .slice A ya.length c], .agg #[.int .i64 j, .slice B yb.length d]] w fun e w' => e = .returned (.bool true) ∧ Below w.heap.size w w' := by
  have HR := Lib.hid hR; clear hR
  have HA := Lib.hid hA; clear hA
  have HC := Lib.hid hB; clear hB
  have HWi := Lib.hid hwi; clear hwi
  have HWj := Lib.hid hwj; clear hwj
  obtain ⟨nr, hnr⟩ : ∃ n, yr.length = n := ⟨_, rfl⟩
  obtain ⟨na, hna⟩ : ∃ n, ya.length = n := ⟨_, rfl⟩
  obtain ⟨nb, hnb⟩ : ∃ n, yb.length = n := ⟨_, rfl⟩
  have HNr := Lib.hid hnr
  have HNa := Lib.hid hna
  have HNb := Lib.hid hnb
  rw [hnr] at hmr ⊢
  rw [hna] at hma ⊢
  rw [hnb] at hmb ⊢
  clear hna hnb hnr
  have hmr' : nr ≤ 9223372036854775807 := by simpa [maxLen] using hmr
  clear hmr
  by_cases hlr : 1048576 < nr
  · have hlr' : (1048576 : Int) < nr := by omega
    go_enter Try.func8, Try.ntmps8
    go_wp2_with fail
    go_ret
    exact ⟨by simp, ((Below.refl _ _).alloc (Nat.le_refl _) _).alloc (by simp) _⟩
  have hlr' : ¬ ((1048576 : Int) < nr) := by omega
  obtain ⟨u, hu⟩ : ∃ u, szv 1048576 na = u := ⟨_, rfl⟩
  have hub := szv_bd (left := 1048576) (n := na) (by omega)
  rw [hu] at hub
  have HU := Lib.hid hu; clear hu
  go_enter Try.func8, Try.ntmps8
  go_wp2_with fail
  obtain ⟨w0, hw0⟩ : ∃ W, W = (w.alloc (.cells #[.int .i64 i, .slice A na c] 32)).alloc (.cells #[.int .i64 j, .slice B nb d] 32) := ⟨_, rfl⟩
  rw [← hw0]
  have hb : Below w.heap.size w w0 := by rw [hw0]; exact ((Below.refl _ _).alloc (Nat.le_refl _) _).alloc (by simp) _
  have HB := Lib.hid hb
  have HP : Hid (Blk w0 w.heap.size 32 [.int .i64 i, .slice A na c]) := Lib.hid (by rw [hw0]; exact (Blk.new w _ _).alloc _)
  have HQ : Hid (Blk w0 (w.heap.size + 1) 32 [.int .i64 j, .slice B nb d]) := Lib.hid (by rw [hw0]; simpa using Blk.new (w.alloc (.cells #[.int .i64 i, .slice A na c] 32)) 32 [.int .i64 j, .slice B nb d])
  obtain ⟨ha0, hb0⟩ := le_le (show w0.heap.size = w.heap.size + 2 by rw [hw0]; simp)
  first | replace HR := Lib.hid (IntsR.below HR.out hb (by omega)) | replace HR := Lib.hid (IntsR.below HR.out (Only.below hb (by omega) (by omega)) (by omega))
  first | replace HA := Lib.hid (IntsR.below HA.out hb (by omega)) | replace HA := Lib.hid (IntsR.below HA.out (Only.below hb (by omega) (by omega)) (by omega))
  first | replace HC := Lib.hid (IntsR.below HC.out hb (by omega)) | replace HC := Lib.hid (IntsR.below HC.out (Only.below hb (by omega) (by omega)) (by omega))
  clear hb hw0
  have h1 := szTask_any i A na c 1048576 w0 (by omega) hma
  rw [HU.out] at h1
  refine h1.mono ?_; rintro e w1 ⟨rfl, hb⟩
  clear h1
  have hs1 := hb.size
  first | replace HR := Lib.hid (IntsR.below HR.out hb (by omega)) | replace HR := Lib.hid (IntsR.below HR.out (Only.below hb (by omega) (by omega)) (by omega))
  first | replace HA := Lib.hid (IntsR.below HA.out hb (by omega)) | replace HA := Lib.hid (IntsR.below HA.out (Only.below hb (by omega) (by omega)) (by omega))
  first | replace HC := Lib.hid (IntsR.below HC.out hb (by omega)) | replace HC := Lib.hid (IntsR.below HC.out (Only.below hb (by omega) (by omega)) (by omega))
  first | replace HB := Lib.hid (Below.trans HB.out (Below.mono hb (by omega))) | replace HB := Lib.hid (Below.trans HB.out (Only.below hb (by omega) (by omega)))
  first | replace HP := Lib.hid (Blk.only HP.out hb (by omega)) | replace HP := Lib.hid (Blk.below HP.out hb (by omega))
  first | replace HQ := Lib.hid (Blk.only HQ.out hb (by omega)) | replace HQ := Lib.hid (Blk.below HQ.out hb (by omega))
  clear hb
  have hp0 := HP.out.cell (i := 0) rfl
  have hp1 := HP.out.cell (i := 1) rfl
  have hq0 := HQ.out.cell (i := 0) rfl
  have hq1 := HQ.out.cell (i := 1) rfl
  by_cases hu0 : u < 0
  · go_wp2_with fail
    go_ret
    exact ⟨by simp, HB.out⟩
  have hla : na ≤ 1048576 := by
    have h := HU.out
    have := szv_hi (left := 1048576) (n := na) (by rw [h]; exact hu0)
    omega
  go_wp2_with fail
  obtain ⟨v, hv⟩ : ∃ v, szv u nb = v := ⟨_, rfl⟩
  have HV := Lib.hid hv; clear hv
  have h1 := szTask_any j B nb d u w1 (by omega) hmb
  rw [HV.out] at h1
  refine h1.mono ?_; rintro e w2 ⟨rfl, hb⟩
  have hs2 := hb.size
  clear h1 hp0 hp1 hq0 hq1
  first | replace HR := Lib.hid (IntsR.below HR.out hb (by omega)) | replace HR := Lib.hid (IntsR.below HR.out (Only.below hb (by omega) (by omega)) (by omega))
  first | replace HA := Lib.hid (IntsR.below HA.out hb (by omega)) | replace HA := Lib.hid (IntsR.below HA.out (Only.below hb (by omega) (by omega)) (by omega))
  first | replace HC := Lib.hid (IntsR.below HC.out hb (by omega)) | replace HC := Lib.hid (IntsR.below HC.out (Only.below hb (by omega) (by omega)) (by omega))
  first | replace HB := Lib.hid (Below.trans HB.out (Below.mono hb (by omega))) | replace HB := Lib.hid (Below.trans HB.out (Only.below hb (by omega) (by omega)))
  first | replace HP := Lib.hid (Blk.only HP.out hb (by omega)) | replace HP := Lib.hid (Blk.below HP.out hb (by omega))
  first | replace HQ := Lib.hid (Blk.only HQ.out hb (by omega)) | replace HQ := Lib.hid (Blk.below HQ.out hb (by omega))
  clear hb
  by_cases hv0 : v < 0
  · go_wp2_with fail
    go_ret
    exact ⟨by simp, HB.out⟩
  have hlb : nb ≤ 1048576 := by
    have h := HV.out
    have := szv_hi (left := u) (n := nb) (by rw [h]; exact hv0)
    omega
  have hla' : ya.length ≤ 1048576 := by rw [HNa.out]; exact hla
  have hlb' : yb.length ≤ 1048576 := by rw [HNb.out]; exact hlb
  have hlr2 : yr.length ≤ 1048576 := by rw [HNr.out]; omega
  have HTa : ∀ W, IntsR W w.heap.size A ya → w.heap.size ≤ W.heap.size → Calls Try.prog 21 #[.agg #[.int .i64 i, .slice A na c]] W fun e w' => ∃ A1 c1, e = .returned (.agg #[.int .i64 i, .slice A1 na c1]) ∧ Ints w' W.heap.size w'.heap.size A1 c1 ya ∧ Below W.heap.size W w' := by
    intro W h1 h2
    have := toTask_any i A c _ ya W h1 hla' h2
    rw [HNa.out] at this
    refine this.mono ?_
    rintro e w' ⟨A1, c1, rfl, hI, hb⟩
    exact ⟨A1, c1, by rw [HNa.out], hI, hb⟩
  have HTb : ∀ W, IntsR W w.heap.size B yb → w.heap.size ≤ W.heap.size → Calls Try.prog 21 #[.agg #[.int .i64 j, .slice B nb d]] W fun e w' => ∃ A1 c1, e = .returned (.agg #[.int .i64 j, .slice A1 nb c1]) ∧ Ints w' W.heap.size w'.heap.size A1 c1 yb ∧ Below W.heap.size W w' := by
    intro W h1 h2
    have := toTask_any j B d _ yb W h1 hlb' h2
    rw [HNb.out] at this
    refine this.mono ?_
    rintro e w' ⟨A1, c1, rfl, hI, hb⟩
    exact ⟨A1, c1, by rw [HNb.out], hI, hb⟩
  have HTr : ∀ W, IntsR W w.heap.size R yr → w.heap.size ≤ W.heap.size → Calls Try.prog 28 #[.slice R nr r] W fun e w' => ∃ A1 c1, e = .returned (.slice A1 nr c1) ∧ Ints w' W.heap.size w'.heap.size A1 c1 yr ∧ Below W.heap.size W w' := by
    intro W h1 h2
    have := toIntS_any R r _ yr W h1 hlr2 h2
    rw [HNr.out] at this
    refine this.mono ?_
    rintro e w' ⟨A1, c1, rfl, hI, hb⟩
    exact ⟨A1, c1, by rw [HNr.out], hI, hb⟩
  have HTa := Lib.hid HTa
  have HTb := Lib.hid HTb
  have HTr := Lib.hid HTr
  obtain ⟨t, ht⟩ : ∃ t, tclashB yr (i, ya) (j, yb) = t := ⟨_, rfl⟩
  have HT := Lib.hid ht; clear ht
  have hp0 := HP.out.cell (i := 0) rfl
  have hp1 := HP.out.cell (i := 1) rfl
  have hq0 := HQ.out.cell (i := 0) rfl
  have hq1 := HQ.out.cell (i := 1) rfl
  replace HR : Hid (IntsR w2.drew _ _ _) := HR
  replace HA : Hid (IntsR w2.drew _ _ _) := HA
  replace HC : Hid (IntsR w2.drew _ _ _) := HC
  replace HB : Hid (Below w.heap.size w w2.drew) := Lib.hid HB.out.drew
  replace HP : Hid (Blk w2.drew _ _ _) := HP
  replace HQ : Hid (Blk w2.drew _ _ _) := HQ
  have hdr2 : w2.heap.size ≤ w2.drew.heap.size ∧ w2.drew.heap.size ≤ w2.heap.size := ⟨Nat.le_refl _, Nat.le_refl _⟩
  clear hp0 hp1 hq0 hq1
  have hp0 := HP.out.cell (i := 0) rfl
  have hp1 := HP.out.cell (i := 1) rfl
  have hq0 := HQ.out.cell (i := 0) rfl
  have hq1 := HQ.out.cell (i := 1) rfl
  go_wp2_with fail
  go_region_held3 (fun w' => w'.cell? ⟨w.heap.size, 0, none⟩ = some (.int .i64 i) ∧ w'.cell? ⟨w.heap.size, 1, none⟩ = some (.slice A na c) ∧ w'.cell? ⟨w.heap.size + 1, 0, none⟩ = some (.int .i64 j) ∧ w'.cell? ⟨w.heap.size + 1, 1, none⟩ = some (.slice B nb d))
    (go_keep)
    (first
      | (go_at_call 28; (with_reducible refine (HTr.out _ HR.out (by omega)).mono ?_); rintro e w3 ⟨R1, r1, rfl, hI, hb⟩; have hs3 := hb.size; (first | replace HR := Lib.hid (IntsR.below HR.out hb (by omega)) | replace HR := Lib.hid (IntsR.below HR.out (Only.below hb (by omega) (by omega)) (by omega))); (first | replace HA := Lib.hid (IntsR.below HA.out hb (by omega)) | replace HA := Lib.hid (IntsR.below HA.out (Only.below hb (by omega) (by omega)) (by omega))); (first | replace HC := Lib.hid (IntsR.below HC.out hb (by omega)) | replace HC := Lib.hid (IntsR.below HC.out (Only.below hb (by omega) (by omega)) (by omega))); (first | replace HB := Lib.hid (Below.trans HB.out (Below.mono hb (by omega))) | replace HB := Lib.hid (Below.trans HB.out (Only.below hb (by omega) (by omega)))); (first | replace HP := Lib.hid (Blk.only HP.out hb (by omega)) | replace HP := Lib.hid (Blk.below HP.out hb (by omega))); (first | replace HQ := Lib.hid (Blk.only HQ.out hb (by omega)) | replace HQ := Lib.hid (Blk.below HQ.out hb (by omega))); clear hb hp0 hp1 hq0 hq1; have hp0 := HP.out.cell (i := 0) rfl; have hp1 := HP.out.cell (i := 1) rfl; have hq0 := HQ.out.cell (i := 0) rfl; have hq1 := HQ.out.cell (i := 1) rfl; have HX := Lib.hid hI; clear hI)
      | (go_at_call 21; first | ((with_reducible refine (HTa.out _ HA.out (by omega)).mono ?_); rintro e w4 ⟨A1, c1, rfl, hI, hb⟩; have hs4 := hb.size; (first | replace HR := Lib.hid (IntsR.below HR.out hb (by omega)) | replace HR := Lib.hid (IntsR.below HR.out (Only.below hb (by omega) (by omega)) (by omega))); (first | replace HA := Lib.hid (IntsR.below HA.out hb (by omega)) | replace HA := Lib.hid (IntsR.below HA.out (Only.below hb (by omega) (by omega)) (by omega))); (first | replace HC := Lib.hid (IntsR.below HC.out hb (by omega)) | replace HC := Lib.hid (IntsR.below HC.out (Only.below hb (by omega) (by omega)) (by omega))); (first | replace HB := Lib.hid (Below.trans HB.out (Below.mono hb (by omega))) | replace HB := Lib.hid (Below.trans HB.out (Only.below hb (by omega) (by omega)))); (first | replace HX := Lib.hid (Ints.only HX.out hb (by omega) (by omega)) | replace HX := Lib.hid (Ints.below HX.out hb (by omega))); (first | replace HP := Lib.hid (Blk.only HP.out hb (by omega)) | replace HP := Lib.hid (Blk.below HP.out hb (by omega))); (first | replace HQ := Lib.hid (Blk.only HQ.out hb (by omega)) | replace HQ := Lib.hid (Blk.below HQ.out hb (by omega))); clear hb hp0 hp1 hq0 hq1; have hp0 := HP.out.cell (i := 0) rfl; have hp1 := HP.out.cell (i := 1) rfl; have hq0 := HQ.out.cell (i := 0) rfl; have hq1 := HQ.out.cell (i := 1) rfl; have HY := Lib.hid hI; clear hI) | ((with_reducible refine (HTb.out _ HC.out (by omega)).mono ?_); rintro e w5 ⟨B1, d1, rfl, hI, hb⟩; have hs5 := hb.size; (first | replace HR := Lib.hid (IntsR.below HR.out hb (by omega)) | replace HR := Lib.hid (IntsR.below HR.out (Only.below hb (by omega) (by omega)) (by omega))); (first | replace HA := Lib.hid (IntsR.below HA.out hb (by omega)) | replace HA := Lib.hid (IntsR.below HA.out (Only.below hb (by omega) (by omega)) (by omega))); (first | replace HC := Lib.hid (IntsR.below HC.out hb (by omega)) | replace HC := Lib.hid (IntsR.below HC.out (Only.below hb (by omega) (by omega)) (by omega))); (first | replace HB := Lib.hid (Below.trans HB.out (Below.mono hb (by omega))) | replace HB := Lib.hid (Below.trans HB.out (Only.below hb (by omega) (by omega)))); (first | replace HX := Lib.hid (Ints.only HX.out hb (by omega) (by omega)) | replace HX := Lib.hid (Ints.below HX.out hb (by omega))); (first | replace HY := Lib.hid (Ints.only HY.out hb (by omega) (by omega)) | replace HY := Lib.hid (Ints.below HY.out hb (by omega))); (first | replace HP := Lib.hid (Blk.only HP.out hb (by omega)) | replace HP := Lib.hid (Blk.below HP.out hb (by omega))); (first | replace HQ := Lib.hid (Blk.only HQ.out hb (by omega)) | replace HQ := Lib.hid (Blk.below HQ.out hb (by omega))); clear hb hp0 hp1 hq0 hq1; have hp0 := HP.out.cell (i := 0) rfl; have hp1 := HP.out.cell (i := 1) rfl; have hq0 := HQ.out.cell (i := 0) rfl; have hq1 := HQ.out.cell (i := 1) rfl; have HZ := Lib.hid hI; clear hI))
      | (go_at_call 27; have h1 := tasksClashS_any i j R1 A1 B1 r1 c1 d1 _ _ _ _ _ _ yr ya yb w5 HX.out HY.out HZ.out hlr2 hla' hlb' (by omega) (by omega) (by omega); rw [HNr.out, HNa.out, HNb.out, HT.out] at h1; refine h1.mono ?_; rintro e w6 ⟨rfl, hb⟩; clear h1 HX HY HZ; have hs6 := hb.size; (first | replace HR := Lib.hid (IntsR.below HR.out hb (by omega)) | replace HR := Lib.hid (IntsR.below HR.out (Only.below hb (by omega) (by omega)) (by omega))); (first | replace HA := Lib.hid (IntsR.below HA.out hb (by omega)) | replace HA := Lib.hid (IntsR.below HA.out (Only.below hb (by omega) (by omega)) (by omega))); (first | replace HC := Lib.hid (IntsR.below HC.out hb (by omega)) | replace HC := Lib.hid (IntsR.below HC.out (Only.below hb (by omega) (by omega)) (by omega))); (first | replace HB := Lib.hid (Below.trans HB.out (Below.mono hb (by omega))) | replace HB := Lib.hid (Below.trans HB.out (Only.below hb (by omega) (by omega)))); (first | replace HP := Lib.hid (Blk.only HP.out hb (by omega)) | replace HP := Lib.hid (Blk.below HP.out hb (by omega))); (first | replace HQ := Lib.hid (Blk.only HQ.out hb (by omega)) | replace HQ := Lib.hid (Blk.below HQ.out hb (by omega))); clear hb hp0 hp1 hq0 hq1; have hp0 := HP.out.cell (i := 0) rfl; have hp1 := HP.out.cell (i := 1) rfl; have hq0 := HQ.out.cell (i := 0) rfl; have hq1 := HQ.out.cell (i := 1) rfl))
  go_wp2_with fail
  refine (HTr.out _ HR.out (by omega)).mono ?_; rintro e w7 ⟨R1, r1, rfl, hI, hb⟩
  have hs7 := hb.size
  first | replace HR := Lib.hid (IntsR.below HR.out hb (by omega)) | replace HR := Lib.hid (IntsR.below HR.out (Only.below hb (by omega) (by omega)) (by omega))
  first | replace HA := Lib.hid (IntsR.below HA.out hb (by omega)) | replace HA := Lib.hid (IntsR.below HA.out (Only.below hb (by omega) (by omega)) (by omega))
  first | replace HC := Lib.hid (IntsR.below HC.out hb (by omega)) | replace HC := Lib.hid (IntsR.below HC.out (Only.below hb (by omega) (by omega)) (by omega))
  first | replace HB := Lib.hid (Below.trans HB.out (Below.mono hb (by omega))) | replace HB := Lib.hid (Below.trans HB.out (Only.below hb (by omega) (by omega)))
  first | replace HP := Lib.hid (Blk.only HP.out hb (by omega)) | replace HP := Lib.hid (Blk.below HP.out hb (by omega))
  first | replace HQ := Lib.hid (Blk.only HQ.out hb (by omega)) | replace HQ := Lib.hid (Blk.below HQ.out hb (by omega))
  clear hb hp0 hp1 hq0 hq1
  have hp0 := HP.out.cell (i := 0) rfl
  have hp1 := HP.out.cell (i := 1) rfl
  have hq0 := HQ.out.cell (i := 0) rfl
  have hq1 := HQ.out.cell (i := 1) rfl
  have HX := Lib.hid hI; clear hI
  go_wp2_with fail
  refine (HTa.out _ HA.out (by omega)).mono ?_; rintro e w8 ⟨A1, c1, rfl, hI, hb⟩
  have hs8 := hb.size
  first | replace HR := Lib.hid (IntsR.below HR.out hb (by omega)) | replace HR := Lib.hid (IntsR.below HR.out (Only.below hb (by omega) (by omega)) (by omega))
  first | replace HA := Lib.hid (IntsR.below HA.out hb (by omega)) | replace HA := Lib.hid (IntsR.below HA.out (Only.below hb (by omega) (by omega)) (by omega))
  first | replace HC := Lib.hid (IntsR.below HC.out hb (by omega)) | replace HC := Lib.hid (IntsR.below HC.out (Only.below hb (by omega) (by omega)) (by omega))
  first | replace HB := Lib.hid (Below.trans HB.out (Below.mono hb (by omega))) | replace HB := Lib.hid (Below.trans HB.out (Only.below hb (by omega) (by omega)))
  first | replace HX := Lib.hid (Ints.only HX.out hb (by omega) (by omega)) | replace HX := Lib.hid (Ints.below HX.out hb (by omega))
  first | replace HP := Lib.hid (Blk.only HP.out hb (by omega)) | replace HP := Lib.hid (Blk.below HP.out hb (by omega))
  first | replace HQ := Lib.hid (Blk.only HQ.out hb (by omega)) | replace HQ := Lib.hid (Blk.below HQ.out hb (by omega))
  clear hb hp0 hp1 hq0 hq1
  have hp0 := HP.out.cell (i := 0) rfl
  have hp1 := HP.out.cell (i := 1) rfl
  have hq0 := HQ.out.cell (i := 0) rfl
  have hq1 := HQ.out.cell (i := 1) rfl
  have HY := Lib.hid hI; clear hI
  have hp0' := (HP.out.alloc (.cells #[.int .i64 i, .slice A1 na c1] 25)).cell (i := 0) rfl
  have hp1' := (HP.out.alloc (.cells #[.int .i64 i, .slice A1 na c1] 25)).cell (i := 1) rfl
  have hq0' := (HQ.out.alloc (.cells #[.int .i64 i, .slice A1 na c1] 25)).cell (i := 0) rfl
  have hq1' := (HQ.out.alloc (.cells #[.int .i64 i, .slice A1 na c1] 25)).cell (i := 1) rfl
  go_wp2_with fail
  clear hp0' hp1' hq0' hq1'
  obtain ⟨w9, hw⟩ : ∃ W, W = w8.alloc (.cells #[.int .i64 i, .slice A1 na c1] 25) := ⟨_, rfl⟩
  rw [← hw]
  have hb : Below w8.heap.size w8 w9 := by rw [hw]; exact (Below.refl _ _).alloc (Nat.le_refl _) _
  have HK : Hid (Blk w9 w8.heap.size 25 [.int .i64 i, .slice A1 na c1]) := Lib.hid (by rw [hw]; exact Blk.new w8 _ _)
  obtain ⟨hxw9, hyw9⟩ := le_le (show w9.heap.size = w8.heap.size + 1 by rw [hw]; simp)
  first | replace HR := Lib.hid (IntsR.below HR.out hb (by omega)) | replace HR := Lib.hid (IntsR.below HR.out (Only.below hb (by omega) (by omega)) (by omega))
  first | replace HA := Lib.hid (IntsR.below HA.out hb (by omega)) | replace HA := Lib.hid (IntsR.below HA.out (Only.below hb (by omega) (by omega)) (by omega))
  first | replace HC := Lib.hid (IntsR.below HC.out hb (by omega)) | replace HC := Lib.hid (IntsR.below HC.out (Only.below hb (by omega) (by omega)) (by omega))
  first | replace HB := Lib.hid (Below.trans HB.out (Below.mono hb (by omega))) | replace HB := Lib.hid (Below.trans HB.out (Only.below hb (by omega) (by omega)))
  first | replace HX := Lib.hid (Ints.only HX.out hb (by omega) (by omega)) | replace HX := Lib.hid (Ints.below HX.out hb (by omega))
  first | replace HY := Lib.hid (Ints.only HY.out hb (by omega) (by omega)) | replace HY := Lib.hid (Ints.below HY.out hb (by omega))
  first | replace HP := Lib.hid (Blk.only HP.out hb (by omega)) | replace HP := Lib.hid (Blk.below HP.out hb (by omega))
  first | replace HQ := Lib.hid (Blk.only HQ.out hb (by omega)) | replace HQ := Lib.hid (Blk.below HQ.out hb (by omega))
  clear hb hw hp0 hp1 hq0 hq1
  have hp0 := HP.out.cell (i := 0) rfl
  have hp1 := HP.out.cell (i := 1) rfl
  have hq0 := HQ.out.cell (i := 0) rfl
  have hq1 := HQ.out.cell (i := 1) rfl
  have hk0 := HK.out.cell (i := 0) rfl
  have hk1 := HK.out.cell (i := 1) rfl
  refine (HTb.out _ HC.out (by omega)).mono ?_; rintro e w10 ⟨B1, d1, rfl, hI, hb⟩
  have hs9 := hb.size
  first | replace HR := Lib.hid (IntsR.below HR.out hb (by omega)) | replace HR := Lib.hid (IntsR.below HR.out (Only.below hb (by omega) (by omega)) (by omega))
  first | replace HA := Lib.hid (IntsR.below HA.out hb (by omega)) | replace HA := Lib.hid (IntsR.below HA.out (Only.below hb (by omega) (by omega)) (by omega))
  first | replace HC := Lib.hid (IntsR.below HC.out hb (by omega)) | replace HC := Lib.hid (IntsR.below HC.out (Only.below hb (by omega) (by omega)) (by omega))
  first | replace HB := Lib.hid (Below.trans HB.out (Below.mono hb (by omega))) | replace HB := Lib.hid (Below.trans HB.out (Only.below hb (by omega) (by omega)))
  first | replace HX := Lib.hid (Ints.only HX.out hb (by omega) (by omega)) | replace HX := Lib.hid (Ints.below HX.out hb (by omega))
  first | replace HY := Lib.hid (Ints.only HY.out hb (by omega) (by omega)) | replace HY := Lib.hid (Ints.below HY.out hb (by omega))
  first | replace HP := Lib.hid (Blk.only HP.out hb (by omega)) | replace HP := Lib.hid (Blk.below HP.out hb (by omega))
  first | replace HQ := Lib.hid (Blk.only HQ.out hb (by omega)) | replace HQ := Lib.hid (Blk.below HQ.out hb (by omega))
  first | replace HK := Lib.hid (Blk.only HK.out hb (by omega)) | replace HK := Lib.hid (Blk.below HK.out hb (by omega))
  clear hb hp0 hp1 hq0 hq1 hk0 hk1
  have hp0 := HP.out.cell (i := 0) rfl
  have hp1 := HP.out.cell (i := 1) rfl
  have hq0 := HQ.out.cell (i := 0) rfl
  have hq1 := HQ.out.cell (i := 1) rfl
  have hk0 := HK.out.cell (i := 0) rfl
  have hk1 := HK.out.cell (i := 1) rfl
  have HZ := Lib.hid hI; clear hI
  have hp0' := (HP.out.alloc (.cells #[.int .i64 j, .slice B1 nb d1] 25)).cell (i := 0) rfl
  have hp1' := (HP.out.alloc (.cells #[.int .i64 j, .slice B1 nb d1] 25)).cell (i := 1) rfl
  have hq0' := (HQ.out.alloc (.cells #[.int .i64 j, .slice B1 nb d1] 25)).cell (i := 0) rfl
  have hq1' := (HQ.out.alloc (.cells #[.int .i64 j, .slice B1 nb d1] 25)).cell (i := 1) rfl
  have hk0' := (HK.out.alloc (.cells #[.int .i64 j, .slice B1 nb d1] 25)).cell (i := 0) rfl
  have hk1' := (HK.out.alloc (.cells #[.int .i64 j, .slice B1 nb d1] 25)).cell (i := 1) rfl
  go_wp2_with fail
  clear hp0' hp1' hq0' hq1' hk0' hk1'
  obtain ⟨w11, hw⟩ : ∃ W, W = w10.alloc (.cells #[.int .i64 j, .slice B1 nb d1] 25) := ⟨_, rfl⟩
  rw [← hw]
  have hb : Below w10.heap.size w10 w11 := by rw [hw]; exact (Below.refl _ _).alloc (Nat.le_refl _) _
  have HL : Hid (Blk w11 w10.heap.size 25 [.int .i64 j, .slice B1 nb d1]) := Lib.hid (by rw [hw]; exact Blk.new w10 _ _)
  obtain ⟨hxw11, hyw11⟩ := le_le (show w11.heap.size = w10.heap.size + 1 by rw [hw]; simp)
  first | replace HR := Lib.hid (IntsR.below HR.out hb (by omega)) | replace HR := Lib.hid (IntsR.below HR.out (Only.below hb (by omega) (by omega)) (by omega))
  first | replace HA := Lib.hid (IntsR.below HA.out hb (by omega)) | replace HA := Lib.hid (IntsR.below HA.out (Only.below hb (by omega) (by omega)) (by omega))
  first | replace HC := Lib.hid (IntsR.below HC.out hb (by omega)) | replace HC := Lib.hid (IntsR.below HC.out (Only.below hb (by omega) (by omega)) (by omega))
  first | replace HB := Lib.hid (Below.trans HB.out (Below.mono hb (by omega))) | replace HB := Lib.hid (Below.trans HB.out (Only.below hb (by omega) (by omega)))
  first | replace HX := Lib.hid (Ints.only HX.out hb (by omega) (by omega)) | replace HX := Lib.hid (Ints.below HX.out hb (by omega))
  first | replace HY := Lib.hid (Ints.only HY.out hb (by omega) (by omega)) | replace HY := Lib.hid (Ints.below HY.out hb (by omega))
  first | replace HZ := Lib.hid (Ints.only HZ.out hb (by omega) (by omega)) | replace HZ := Lib.hid (Ints.below HZ.out hb (by omega))
  first | replace HP := Lib.hid (Blk.only HP.out hb (by omega)) | replace HP := Lib.hid (Blk.below HP.out hb (by omega))
  first | replace HQ := Lib.hid (Blk.only HQ.out hb (by omega)) | replace HQ := Lib.hid (Blk.below HQ.out hb (by omega))
  first | replace HK := Lib.hid (Blk.only HK.out hb (by omega)) | replace HK := Lib.hid (Blk.below HK.out hb (by omega))
  clear hb hw hp0 hp1 hq0 hq1 hk0 hk1
  have hp0 := HP.out.cell (i := 0) rfl
  have hp1 := HP.out.cell (i := 1) rfl
  have hq0 := HQ.out.cell (i := 0) rfl
  have hq1 := HQ.out.cell (i := 1) rfl
  have hk0 := HK.out.cell (i := 0) rfl
  have hk1 := HK.out.cell (i := 1) rfl
  have hl0 := HL.out.cell (i := 0) rfl
  have hl1 := HL.out.cell (i := 1) rfl
  have h1 := tasksClash_any i j R1 A1 B1 r1 c1 d1 _ _ _ _ _ _ yr ya yb w11 HX.out HY.out HZ.out hlr2 hla' hlb' HWi.out HWj.out (by omega) (by omega) (by omega)
  rw [HNr.out, HNa.out, HNb.out, HT.out] at h1
  refine h1.mono ?_; rintro e w12 ⟨rfl, hb⟩
  clear h1
  have hs10 := hb.size
  first | replace HR := Lib.hid (IntsR.below HR.out hb (by omega)) | replace HR := Lib.hid (IntsR.below HR.out (Only.below hb (by omega) (by omega)) (by omega))
  first | replace HA := Lib.hid (IntsR.below HA.out hb (by omega)) | replace HA := Lib.hid (IntsR.below HA.out (Only.below hb (by omega) (by omega)) (by omega))
  first | replace HC := Lib.hid (IntsR.below HC.out hb (by omega)) | replace HC := Lib.hid (IntsR.below HC.out (Only.below hb (by omega) (by omega)) (by omega))
  first | replace HB := Lib.hid (Below.trans HB.out (Below.mono hb (by omega))) | replace HB := Lib.hid (Below.trans HB.out (Only.below hb (by omega) (by omega)))
  first | replace HX := Lib.hid (Ints.only HX.out hb (by omega) (by omega)) | replace HX := Lib.hid (Ints.below HX.out hb (by omega))
  first | replace HY := Lib.hid (Ints.only HY.out hb (by omega) (by omega)) | replace HY := Lib.hid (Ints.below HY.out hb (by omega))
  first | replace HZ := Lib.hid (Ints.only HZ.out hb (by omega) (by omega)) | replace HZ := Lib.hid (Ints.below HZ.out hb (by omega))
  first | replace HP := Lib.hid (Blk.only HP.out hb (by omega)) | replace HP := Lib.hid (Blk.below HP.out hb (by omega))
  first | replace HQ := Lib.hid (Blk.only HQ.out hb (by omega)) | replace HQ := Lib.hid (Blk.below HQ.out hb (by omega))
  first | replace HK := Lib.hid (Blk.only HK.out hb (by omega)) | replace HK := Lib.hid (Blk.below HK.out hb (by omega))
  first | replace HL := Lib.hid (Blk.only HL.out hb (by omega)) | replace HL := Lib.hid (Blk.below HL.out hb (by omega))
  clear hb hp0 hp1 hq0 hq1 hk0 hk1 hl0 hl1
  have hp0 := HP.out.cell (i := 0) rfl
  have hp1 := HP.out.cell (i := 1) rfl
  have hq0 := HQ.out.cell (i := 0) rfl
  have hq1 := HQ.out.cell (i := 1) rfl
  have hk0 := HK.out.cell (i := 0) rfl
  have hk1 := HK.out.cell (i := 1) rfl
  have hl0 := HL.out.cell (i := 0) rfl
  have hl1 := HL.out.cell (i := 1) rfl
  go_wp2_with fail
  refine (HTr.out _ HR.out (by omega)).mono ?_; rintro e w13 ⟨R2, r2, rfl, hI, hb⟩
  have hs11 := hb.size
  first | replace HR := Lib.hid (IntsR.below HR.out hb (by omega)) | replace HR := Lib.hid (IntsR.below HR.out (Only.below hb (by omega) (by omega)) (by omega))
  first | replace HA := Lib.hid (IntsR.below HA.out hb (by omega)) | replace HA := Lib.hid (IntsR.below HA.out (Only.below hb (by omega) (by omega)) (by omega))
  first | replace HC := Lib.hid (IntsR.below HC.out hb (by omega)) | replace HC := Lib.hid (IntsR.below HC.out (Only.below hb (by omega) (by omega)) (by omega))
  first | replace HB := Lib.hid (Below.trans HB.out (Below.mono hb (by omega))) | replace HB := Lib.hid (Below.trans HB.out (Only.below hb (by omega) (by omega)))
  first | replace HX := Lib.hid (Ints.only HX.out hb (by omega) (by omega)) | replace HX := Lib.hid (Ints.below HX.out hb (by omega))
  first | replace HY := Lib.hid (Ints.only HY.out hb (by omega) (by omega)) | replace HY := Lib.hid (Ints.below HY.out hb (by omega))
  first | replace HZ := Lib.hid (Ints.only HZ.out hb (by omega) (by omega)) | replace HZ := Lib.hid (Ints.below HZ.out hb (by omega))
  first | replace HP := Lib.hid (Blk.only HP.out hb (by omega)) | replace HP := Lib.hid (Blk.below HP.out hb (by omega))
  first | replace HQ := Lib.hid (Blk.only HQ.out hb (by omega)) | replace HQ := Lib.hid (Blk.below HQ.out hb (by omega))
  first | replace HK := Lib.hid (Blk.only HK.out hb (by omega)) | replace HK := Lib.hid (Blk.below HK.out hb (by omega))
  first | replace HL := Lib.hid (Blk.only HL.out hb (by omega)) | replace HL := Lib.hid (Blk.below HL.out hb (by omega))
  clear hb hp0 hp1 hq0 hq1 hk0 hk1 hl0 hl1
  have hp0 := HP.out.cell (i := 0) rfl
  have hp1 := HP.out.cell (i := 1) rfl
  have hq0 := HQ.out.cell (i := 0) rfl
  have hq1 := HQ.out.cell (i := 1) rfl
  have hk0 := HK.out.cell (i := 0) rfl
  have hk1 := HK.out.cell (i := 1) rfl
  have hl0 := HL.out.cell (i := 0) rfl
  have hl1 := HL.out.cell (i := 1) rfl
  have HI := Lib.hid hI; clear hI
  have h1 := eqIntS_eq R1 R2 r1 r2 _ _ _ _ yr w13 HX.out HI.out (by omega)
  rw [HNr.out] at h1
  have H1 := Lib.hid h1; clear h1
  go_wp2_with fail
  refine H1.out.mono ?_; rintro e w14 ⟨rfl, hd⟩
  have hb := drawn_below hd; clear hd H1
  have hs12 := hb.size
  first | replace HR := Lib.hid (IntsR.below HR.out hb (by omega)) | replace HR := Lib.hid (IntsR.below HR.out (Only.below hb (by omega) (by omega)) (by omega))
  first | replace HA := Lib.hid (IntsR.below HA.out hb (by omega)) | replace HA := Lib.hid (IntsR.below HA.out (Only.below hb (by omega) (by omega)) (by omega))
  first | replace HC := Lib.hid (IntsR.below HC.out hb (by omega)) | replace HC := Lib.hid (IntsR.below HC.out (Only.below hb (by omega) (by omega)) (by omega))
  first | replace HB := Lib.hid (Below.trans HB.out (Below.mono hb (by omega))) | replace HB := Lib.hid (Below.trans HB.out (Only.below hb (by omega) (by omega)))
  first | replace HY := Lib.hid (Ints.only HY.out hb (by omega) (by omega)) | replace HY := Lib.hid (Ints.below HY.out hb (by omega))
  first | replace HZ := Lib.hid (Ints.only HZ.out hb (by omega) (by omega)) | replace HZ := Lib.hid (Ints.below HZ.out hb (by omega))
  first | replace HP := Lib.hid (Blk.only HP.out hb (by omega)) | replace HP := Lib.hid (Blk.below HP.out hb (by omega))
  first | replace HQ := Lib.hid (Blk.only HQ.out hb (by omega)) | replace HQ := Lib.hid (Blk.below HQ.out hb (by omega))
  first | replace HK := Lib.hid (Blk.only HK.out hb (by omega)) | replace HK := Lib.hid (Blk.below HK.out hb (by omega))
  first | replace HL := Lib.hid (Blk.only HL.out hb (by omega)) | replace HL := Lib.hid (Blk.below HL.out hb (by omega))
  clear hb hp0 hp1 hq0 hq1 hk0 hk1 hl0 hl1
  have hp0 := HP.out.cell (i := 0) rfl
  have hp1 := HP.out.cell (i := 1) rfl
  have hq0 := HQ.out.cell (i := 0) rfl
  have hq1 := HQ.out.cell (i := 1) rfl
  have hk0 := HK.out.cell (i := 0) rfl
  have hk1 := HK.out.cell (i := 1) rfl
  have hl0 := HL.out.cell (i := 0) rfl
  have hl1 := HL.out.cell (i := 1) rfl
  replace HR : Hid (IntsR w14.drew _ _ _) := HR
  replace HA : Hid (IntsR w14.drew _ _ _) := HA
  replace HC : Hid (IntsR w14.drew _ _ _) := HC
  replace HB : Hid (Below w.heap.size w w14.drew) := Lib.hid HB.out.drew
  replace HY := Lib.hid (HY.out.drewN 1)
  replace HZ := Lib.hid (HZ.out.drewN 1)
  replace HP : Hid (Blk w14.drew _ _ _) := HP
  replace HQ : Hid (Blk w14.drew _ _ _) := HQ
  replace HK : Hid (Blk w14.drew _ _ _) := HK
  replace HL : Hid (Blk w14.drew _ _ _) := HL
  have hdr13 : w14.heap.size ≤ w14.drew.heap.size ∧ w14.drew.heap.size ≤ w14.heap.size := ⟨Nat.le_refl _, Nat.le_refl _⟩
  clear hp0 hp1 hq0 hq1 hk0 hk1 hl0 hl1
  have hp0 := HP.out.cell (i := 0) rfl
  have hp1 := HP.out.cell (i := 1) rfl
  have hq0 := HQ.out.cell (i := 0) rfl
  have hq1 := HQ.out.cell (i := 1) rfl
  have hk0 := HK.out.cell (i := 0) rfl
  have hk1 := HK.out.cell (i := 1) rfl
  have hl0 := HL.out.cell (i := 0) rfl
  have hl1 := HL.out.cell (i := 1) rfl
  go_wp2_with fail
  go_region_held3 (fun w' => w'.cell? ⟨w.heap.size, 0, none⟩ = some (.int .i64 i) ∧ w'.cell? ⟨w.heap.size, 1, none⟩ = some (.slice A na c) ∧ w'.cell? ⟨w8.heap.size, 0, none⟩ = some (.int .i64 i) ∧ w'.cell? ⟨w8.heap.size, 1, none⟩ = some (.slice A1 na c1))
    (go_keep)
    (first
      | (go_at_call 21; (with_reducible refine (HTa.out _ HA.out (by omega)).mono ?_); rintro e w15 ⟨A9, c9, rfl, hI, hb⟩; have hs13 := hb.size; (first | replace HR := Lib.hid (IntsR.below HR.out hb (by omega)) | replace HR := Lib.hid (IntsR.below HR.out (Only.below hb (by omega) (by omega)) (by omega))); (first | replace HA := Lib.hid (IntsR.below HA.out hb (by omega)) | replace HA := Lib.hid (IntsR.below HA.out (Only.below hb (by omega) (by omega)) (by omega))); (first | replace HC := Lib.hid (IntsR.below HC.out hb (by omega)) | replace HC := Lib.hid (IntsR.below HC.out (Only.below hb (by omega) (by omega)) (by omega))); (first | replace HB := Lib.hid (Below.trans HB.out (Below.mono hb (by omega))) | replace HB := Lib.hid (Below.trans HB.out (Only.below hb (by omega) (by omega)))); (first | replace HY := Lib.hid (Ints.only HY.out hb (by omega) (by omega)) | replace HY := Lib.hid (Ints.below HY.out hb (by omega))); (first | replace HZ := Lib.hid (Ints.only HZ.out hb (by omega) (by omega)) | replace HZ := Lib.hid (Ints.below HZ.out hb (by omega))); (first | replace HP := Lib.hid (Blk.only HP.out hb (by omega)) | replace HP := Lib.hid (Blk.below HP.out hb (by omega))); (first | replace HQ := Lib.hid (Blk.only HQ.out hb (by omega)) | replace HQ := Lib.hid (Blk.below HQ.out hb (by omega))); (first | replace HK := Lib.hid (Blk.only HK.out hb (by omega)) | replace HK := Lib.hid (Blk.below HK.out hb (by omega))); (first | replace HL := Lib.hid (Blk.only HL.out hb (by omega)) | replace HL := Lib.hid (Blk.below HL.out hb (by omega))); clear hb hp0 hp1 hq0 hq1 hk0 hk1 hl0 hl1; have hp0 := HP.out.cell (i := 0) rfl; have hp1 := HP.out.cell (i := 1) rfl; have hq0 := HQ.out.cell (i := 0) rfl; have hq1 := HQ.out.cell (i := 1) rfl; have hk0 := HK.out.cell (i := 0) rfl; have hk1 := HK.out.cell (i := 1) rfl; have hl0 := HL.out.cell (i := 0) rfl; have hl1 := HL.out.cell (i := 1) rfl; have HI := Lib.hid hI; clear hI)
      | (go_at_call 22; have h1 := eqTask_eq i A1 A9 c1 c9 _ _ _ _ ya w15 HY.out HI.out (by omega) (by omega) (by omega); rw [HNa.out] at h1; refine h1.mono ?_; rintro e w16 ⟨rfl, hb⟩; clear h1 HI; have hs14 := hb.size; (first | replace HR := Lib.hid (IntsR.below HR.out hb (by omega)) | replace HR := Lib.hid (IntsR.below HR.out (Only.below hb (by omega) (by omega)) (by omega))); (first | replace HA := Lib.hid (IntsR.below HA.out hb (by omega)) | replace HA := Lib.hid (IntsR.below HA.out (Only.below hb (by omega) (by omega)) (by omega))); (first | replace HC := Lib.hid (IntsR.below HC.out hb (by omega)) | replace HC := Lib.hid (IntsR.below HC.out (Only.below hb (by omega) (by omega)) (by omega))); (first | replace HB := Lib.hid (Below.trans HB.out (Below.mono hb (by omega))) | replace HB := Lib.hid (Below.trans HB.out (Only.below hb (by omega) (by omega)))); (first | replace HY := Lib.hid (Ints.only HY.out hb (by omega) (by omega)) | replace HY := Lib.hid (Ints.below HY.out hb (by omega))); (first | replace HZ := Lib.hid (Ints.only HZ.out hb (by omega) (by omega)) | replace HZ := Lib.hid (Ints.below HZ.out hb (by omega))); (first | replace HP := Lib.hid (Blk.only HP.out hb (by omega)) | replace HP := Lib.hid (Blk.below HP.out hb (by omega))); (first | replace HQ := Lib.hid (Blk.only HQ.out hb (by omega)) | replace HQ := Lib.hid (Blk.below HQ.out hb (by omega))); (first | replace HK := Lib.hid (Blk.only HK.out hb (by omega)) | replace HK := Lib.hid (Blk.below HK.out hb (by omega))); (first | replace HL := Lib.hid (Blk.only HL.out hb (by omega)) | replace HL := Lib.hid (Blk.below HL.out hb (by omega))); clear hb hp0 hp1 hq0 hq1 hk0 hk1 hl0 hl1; have hp0 := HP.out.cell (i := 0) rfl; have hp1 := HP.out.cell (i := 1) rfl; have hq0 := HQ.out.cell (i := 0) rfl; have hq1 := HQ.out.cell (i := 1) rfl; have hk0 := HK.out.cell (i := 0) rfl; have hk1 := HK.out.cell (i := 1) rfl; have hl0 := HL.out.cell (i := 0) rfl; have hl1 := HL.out.cell (i := 1) rfl))
  replace HR : Hid (IntsR w16.drew _ _ _) := HR
  replace HA : Hid (IntsR w16.drew _ _ _) := HA
  replace HC : Hid (IntsR w16.drew _ _ _) := HC
  replace HB : Hid (Below w.heap.size w w16.drew) := Lib.hid HB.out.drew
  replace HY := Lib.hid (HY.out.drewN 1)
  replace HZ := Lib.hid (HZ.out.drewN 1)
  replace HP : Hid (Blk w16.drew _ _ _) := HP
  replace HQ : Hid (Blk w16.drew _ _ _) := HQ
  replace HK : Hid (Blk w16.drew _ _ _) := HK
  replace HL : Hid (Blk w16.drew _ _ _) := HL
  have hdr15 : w16.heap.size ≤ w16.drew.heap.size ∧ w16.drew.heap.size ≤ w16.heap.size := ⟨Nat.le_refl _, Nat.le_refl _⟩
  clear hp0 hp1 hq0 hq1 hk0 hk1 hl0 hl1
  have hp0 := HP.out.cell (i := 0) rfl
  have hp1 := HP.out.cell (i := 1) rfl
  have hq0 := HQ.out.cell (i := 0) rfl
  have hq1 := HQ.out.cell (i := 1) rfl
  have hk0 := HK.out.cell (i := 0) rfl
  have hk1 := HK.out.cell (i := 1) rfl
  have hl0 := HL.out.cell (i := 0) rfl
  have hl1 := HL.out.cell (i := 1) rfl
  go_wp2_with fail
  go_region_held3 (fun w' => w'.cell? ⟨w.heap.size + 1, 0, none⟩ = some (.int .i64 j) ∧ w'.cell? ⟨w.heap.size + 1, 1, none⟩ = some (.slice B nb d) ∧ w'.cell? ⟨w10.heap.size, 0, none⟩ = some (.int .i64 j) ∧ w'.cell? ⟨w10.heap.size, 1, none⟩ = some (.slice B1 nb d1))
    (go_keep)
    (first
      | (go_at_call 21; (with_reducible refine (HTb.out _ HC.out (by omega)).mono ?_); rintro e w17 ⟨A9, c9, rfl, hI, hb⟩; have hs15 := hb.size; (first | replace HR := Lib.hid (IntsR.below HR.out hb (by omega)) | replace HR := Lib.hid (IntsR.below HR.out (Only.below hb (by omega) (by omega)) (by omega))); (first | replace HA := Lib.hid (IntsR.below HA.out hb (by omega)) | replace HA := Lib.hid (IntsR.below HA.out (Only.below hb (by omega) (by omega)) (by omega))); (first | replace HC := Lib.hid (IntsR.below HC.out hb (by omega)) | replace HC := Lib.hid (IntsR.below HC.out (Only.below hb (by omega) (by omega)) (by omega))); (first | replace HB := Lib.hid (Below.trans HB.out (Below.mono hb (by omega))) | replace HB := Lib.hid (Below.trans HB.out (Only.below hb (by omega) (by omega)))); (first | replace HY := Lib.hid (Ints.only HY.out hb (by omega) (by omega)) | replace HY := Lib.hid (Ints.below HY.out hb (by omega))); (first | replace HZ := Lib.hid (Ints.only HZ.out hb (by omega) (by omega)) | replace HZ := Lib.hid (Ints.below HZ.out hb (by omega))); (first | replace HP := Lib.hid (Blk.only HP.out hb (by omega)) | replace HP := Lib.hid (Blk.below HP.out hb (by omega))); (first | replace HQ := Lib.hid (Blk.only HQ.out hb (by omega)) | replace HQ := Lib.hid (Blk.below HQ.out hb (by omega))); (first | replace HK := Lib.hid (Blk.only HK.out hb (by omega)) | replace HK := Lib.hid (Blk.below HK.out hb (by omega))); (first | replace HL := Lib.hid (Blk.only HL.out hb (by omega)) | replace HL := Lib.hid (Blk.below HL.out hb (by omega))); clear hb hp0 hp1 hq0 hq1 hk0 hk1 hl0 hl1; have hp0 := HP.out.cell (i := 0) rfl; have hp1 := HP.out.cell (i := 1) rfl; have hq0 := HQ.out.cell (i := 0) rfl; have hq1 := HQ.out.cell (i := 1) rfl; have hk0 := HK.out.cell (i := 0) rfl; have hk1 := HK.out.cell (i := 1) rfl; have hl0 := HL.out.cell (i := 0) rfl; have hl1 := HL.out.cell (i := 1) rfl; have HI := Lib.hid hI; clear hI)
      | (go_at_call 22; have h1 := eqTask_eq j B1 A9 d1 c9 _ _ _ _ yb w17 HZ.out HI.out (by omega) (by omega) (by omega); rw [HNb.out] at h1; refine h1.mono ?_; rintro e w18 ⟨rfl, hb⟩; clear h1 HI; have hs16 := hb.size; (first | replace HR := Lib.hid (IntsR.below HR.out hb (by omega)) | replace HR := Lib.hid (IntsR.below HR.out (Only.below hb (by omega) (by omega)) (by omega))); (first | replace HA := Lib.hid (IntsR.below HA.out hb (by omega)) | replace HA := Lib.hid (IntsR.below HA.out (Only.below hb (by omega) (by omega)) (by omega))); (first | replace HC := Lib.hid (IntsR.below HC.out hb (by omega)) | replace HC := Lib.hid (IntsR.below HC.out (Only.below hb (by omega) (by omega)) (by omega))); (first | replace HB := Lib.hid (Below.trans HB.out (Below.mono hb (by omega))) | replace HB := Lib.hid (Below.trans HB.out (Only.below hb (by omega) (by omega)))); (first | replace HY := Lib.hid (Ints.only HY.out hb (by omega) (by omega)) | replace HY := Lib.hid (Ints.below HY.out hb (by omega))); (first | replace HZ := Lib.hid (Ints.only HZ.out hb (by omega) (by omega)) | replace HZ := Lib.hid (Ints.below HZ.out hb (by omega))); (first | replace HP := Lib.hid (Blk.only HP.out hb (by omega)) | replace HP := Lib.hid (Blk.below HP.out hb (by omega))); (first | replace HQ := Lib.hid (Blk.only HQ.out hb (by omega)) | replace HQ := Lib.hid (Blk.below HQ.out hb (by omega))); (first | replace HK := Lib.hid (Blk.only HK.out hb (by omega)) | replace HK := Lib.hid (Blk.below HK.out hb (by omega))); (first | replace HL := Lib.hid (Blk.only HL.out hb (by omega)) | replace HL := Lib.hid (Blk.below HL.out hb (by omega))); clear hb hp0 hp1 hq0 hq1 hk0 hk1 hl0 hl1; have hp0 := HP.out.cell (i := 0) rfl; have hp1 := HP.out.cell (i := 1) rfl; have hq0 := HQ.out.cell (i := 0) rfl; have hq1 := HQ.out.cell (i := 1) rfl; have hk0 := HK.out.cell (i := 0) rfl; have hk1 := HK.out.cell (i := 1) rfl; have hl0 := HL.out.cell (i := 0) rfl; have hl1 := HL.out.cell (i := 1) rfl))
  go_wp2_with fail
  go_ret
  exact ⟨by simp, HB.out⟩
end Go.Proofs.Ythfhlcmgeacddaa
