/- The walk of one statement: by the contracts of what it calls it returns true and changes nothing that was there. No condition. -/
import Derived.Test.YtpjipofkpikipaaIl
namespace Go.Proofs.Ytpjipofkpikipaa
open Go.RowKit
set_option maxHeartbeats 1000000 in
theorem FnIndexNone_walk (A : Option Addr) (n c : Nat) (w : World) (hA : BytesR w w.heap.size A n) (hc : n ≤ c) (hm : c ≤ maxLen) :
    Calls Try.prog 11 #[.slice A n c] w fun e w' => e = .returned (.bool true) ∧ Below w.heap.size w w' := by
  have HA := Lib.hid hA; clear hA
  by_cases hn : 1048576 < n
  · go_enter Try.func11, Try.ntmps11
    go_wp2
    go_ret
    exact ⟨by simp, Below.refl _ _⟩
  have hnd : ¬ ((1048576 : Int) < (n : Int)) := by omega
  have HB := Lib.hid (Below.refl w.heap.size w)
  go_enter Try.func11, Try.ntmps11
  go_wp2_with fail
  refine (DrawIndexFirst_any A n c w HA.out hc hm).mono ?_; rintro e w1 ⟨A1, c1, us, B1, d1, ys, rfl, hI, hl, hs, hY, hly, hyz, hb⟩
  replace HB := Lib.hid (Below.step HB.out hb)
  have HX := Lib.hid (hI.mono (Nat.zero_le _) (Nat.le_refl _))
  have HY := Lib.hid (hY.mono (Nat.zero_le _) (Nat.le_refl _))
  have HS : Hid (∀ r, r ∈ us → r.xs.length ≤ 1048576) := Lib.hid (fun r hr => by have := hs r hr; omega)
  clear hI hs hb hY hyz
  obtain ⟨F, hF⟩ : ∃ F, firstI (us.map RowV.xs) ys = F := ⟨_, rfl⟩
  have HF := Lib.hid hF
  have H2 : Hid (∀ W, Below w1.heap.size w1 W → Calls Try.prog 32 #[.slice A1 us.length c1, .slice B1 ys.length d1] W fun e w' => e = .returned (.int .i64 F) ∧ Below W.heap.size W w') := Lib.hid (fun W hb => by
    have h := indexFirst_any A1 c1 _ _ us B1 d1 _ _ ys W (HX.out.step hb) (by omega) HS.out (Nat.le_refl _) (HY.out.step hb) (by omega) (Nat.le_refl _)
    rwa [hF] at h)
  have H3 : Hid (∀ W, Below w1.heap.size w1 W → Calls Try.prog 30 #[.slice A1 us.length c1, .slice B1 ys.length d1] W fun e w' => e = .returned (.int .i64 F) ∧ Below W.heap.size W w') := Lib.hid (fun W hb => by
    have h := indexFirstS_any A1 c1 _ _ us B1 d1 _ _ ys W (HX.out.step hb) (by omega) HS.out (Nat.le_refl _) (HY.out.step hb) (by omega) (Nat.le_refl _)
    rwa [hF] at h)
  clear hF
  go_wp2_with fail
  refine (H2.out w1 (Below.refl _ _)).mono ?_; rintro e w2 ⟨rfl, hb2⟩
  have HB2 := Lib.hid hb2
  clear hb2
  go_wp2_with fail
  refine (H3.out w2 HB2.out).mono ?_; rintro e w3 ⟨rfl, hb3⟩
  have HB3 := Lib.hid (Below.step HB2.out hb3)
  clear hb3 HB2
  replace HX := Lib.hid (HX.out.step HB3.out)
  replace HY := Lib.hid (HY.out.step HB3.out)
  replace HB := Lib.hid (Below.step HB.out HB3.out)
  have hne : (F != F) = false := by simp
  have heq : (F == F) = true := by simp
  obtain ⟨vi, hvi⟩ : ∃ v, idxB (us.map RowV.xs) = v := ⟨_, rfl⟩
  have h5 := indexValidS_any A1 c1 _ _ us w3 HX.out (by omega) HS.out (Nat.le_refl _)
  rw [hvi] at h5
  have H5 := Lib.hid h5
  have HVI := Lib.hid hvi
  clear hvi h5
  go_wp2_with fail
  refine H5.out.mono ?_; rintro e w4 ⟨rfl, hb⟩
  replace HX := Lib.hid (HX.out.step hb)
  replace HY := Lib.hid (HY.out.step hb)
  replace HB := Lib.hid (Below.step HB.out hb)
  clear hb H5
  cases vi
  · go_wp2_with fail
    go_ret
    exact ⟨by simp, HB.out⟩
  obtain ⟨vn, hvn⟩ : ∃ v, vecB ys = v := ⟨_, rfl⟩
  have h5 := vecValidS_any B1 d1 _ _ ys w4 HY.out (by omega)
  rw [hvn] at h5
  have H5 := Lib.hid h5
  have HVN := Lib.hid hvn
  clear hvn h5
  go_wp2_with fail
  refine H5.out.mono ?_; rintro e w' ⟨rfl, rfl⟩
  clear H5
  cases vn
  · go_wp2_with fail
    go_ret
    exact ⟨by simp, HB.out⟩
  have H32 : Hid (us.length = 32) := Lib.hid (by
    obtain ⟨rs, h, _⟩ := idxB_form HVI.out
    have := congrArg List.length h
    rw [tabL_len] at this; simpa using this)
  by_cases hF0 : F < 0
  · have hF0' : ¬ (0 ≤ F) := by omega
    have HNO : Hid (∀ (j : Nat) r, (us.map RowV.xs)[16 + j]? = some r → vfitsB ys r = false) := Lib.hid (by
      rcases firstI_cases (us.map RowV.xs) ys with ⟨_, h⟩ | ⟨h1, h2, i, r, e, _⟩
      · exact h HVI.out HVN.out
      · rw [HF.out] at e; omega)
    go_wp2_with fail
    go_loopw [7] (fun j wr => ∃ k n : Nat, k ≤ 16 ∧ j = .int .i64 k ∧ wr = w4.drewN n) (fun j _ => 16 - (intOf j).toNat)
    case atStart => exact ⟨0, 0, by omega, rfl, rfl⟩
    case round =>
      obtain ⟨k, n, hk, rfl, rfl⟩ := hrel
      by_cases hlt : k < 16
      · obtain ⟨b2, o2, r2, rfl, hr2, hc2, _, _, hI2⟩ := HX.out.at_ (k := 16 + k) (by have := H32.out; omega)
        have hv := HNO.out k r2.xs (xs_at hr2)
        have h9 := fun m => vecFits_any B1 r2.a d1 r2.c _ _ _ _ ys r2.xs (w4.drewN m) (HY.out.drewN m) (hI2.drewN m) (by omega) (HS.out r2 (List.mem_of_getElem? hr2))
        rw [hv] at h9
        have H9 := Lib.hid h9
        have hklt : (k : Int) < 16 := by omega
        have hk0 : (0 : Int) ≤ k := by omega
        have hk16 : 16 + (k : Int) < us.length := by have := H32.out; omega
        have hk16p : (0 : Int) ≤ 16 + (k : Int) := by omega
        have hkw : IntKind.i64.wrap (16 + (k : Int)) = 16 + (k : Int) := wrap_small (by omega)
        clear hr2 hI2 hv h9
        go_wp2_with fail
        refine (H9.out n).mono ?_; rintro e w5 ⟨rfl, rfl⟩
        go_wp2_with fail
        go_roundw
        case rel => exact ⟨k + 1, n, by omega, by go_num, rfl⟩
        case measure => simp [intOf]; omega
      · have hkn : ¬ ((k : Int) < 16) := by omega
        go_wp2_with fail
        go_ret
        exact ⟨by simp, Below.drewN HB.out n⟩
  · have hF0' : 0 ≤ F := by omega
    have h1u : 1 < us.length := by have := H32.out; omega
    have h1ui : (1 : Int) < us.length := by omega
    obtain ⟨b2, o2, r2, rfl, hr2, hc2, _, _, hI2⟩ := HX.out.at_ (k := 1) h1u
    have hv : vfitsB ys r2.xs = true := firstI_top (t := us.map RowV.xs) (by rw [HF.out]; exact hF0') (xs_at hr2)
    have h9 := fun m => vecFits_any B1 r2.a d1 r2.c _ _ _ _ ys r2.xs (w4.drewN m) (HY.out.drewN m) (hI2.drewN m) (by omega) (HS.out r2 (List.mem_of_getElem? hr2))
    rw [hv] at h9
    have H9 := Lib.hid h9
    clear hr2 hI2 hv h9
    go_wp2_with fail
    refine (H9.out 0).mono ?_; rintro e w5 ⟨rfl, rfl⟩
    go_wp2_with fail
    go_ret
    exact ⟨by simp, Below.drewN HB.out 0⟩
end Go.Proofs.Ytpjipofkpikipaa
