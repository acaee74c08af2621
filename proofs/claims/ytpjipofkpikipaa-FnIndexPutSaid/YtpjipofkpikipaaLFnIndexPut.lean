/- The walk of one statement: by the contracts of what it calls it returns true and changes nothing that was there. No condition. -/
import Derived.Test.YtpjipofkpikipaaIl
namespace Go.Proofs.Ytpjipofkpikipaa
open Go.RowKit
set_option maxHeartbeats 1000000 in
theorem FnIndexPut_walk (A : Option Addr) (n c : Nat) (w : World) (hA : BytesR w w.heap.size A n) (hc : n ≤ c) (hm : c ≤ maxLen) :
    Calls Try.prog 13 #[.slice A n c] w fun e w' => e = .returned (.bool true) ∧ Below w.heap.size w w' := by
  have HA := Lib.hid hA; clear hA
  by_cases hn : 1048576 < n
  · go_enter Try.func13, Try.ntmps13
    go_wp2
    go_ret
    exact ⟨by simp, Below.refl _ _⟩
  have hnd : ¬ ((1048576 : Int) < (n : Int)) := by omega
  have HB := Lib.hid (Below.refl w.heap.size w)
  go_enter Try.func13, Try.ntmps13
  go_wp2_with fail
  refine (DrawIndexPut_any A n c w HA.out hc hm).mono ?_; rintro e w1 ⟨A1, c1, us, i, B1, d1, ys, rfl, hI, hl, hs, hib, hY, hly, hyz, hb⟩
  replace HB := Lib.hid (Below.step HB.out hb)
  have HX := Lib.hid (hI.mono (Nat.zero_le _) (Nat.le_refl _))
  have HY := Lib.hid (hY.mono (Nat.zero_le _) (Nat.le_refl _))
  have HS : Hid (∀ r, r ∈ us → r.xs.length ≤ 1048576) := Lib.hid (fun r hr => by have := hs r hr; omega)
  clear hI hs hb hY hyz
  obtain ⟨Z, v, hZ⟩ : ∃ Z v, putR (us.map RowV.xs) i ys = (Z, v) := ⟨_, _, rfl⟩
  have HZ := Lib.hid hZ
  have HZS : Hid (∀ r, r ∈ Z → r.length ≤ 3) := Lib.hid (by have := putR_short (t := us.map RowV.xs) (i := i) (room := ys); rw [hZ] at this; exact this)
  have hzl : Z.length ≤ 32 := by have := putR_len (us.map RowV.xs) i ys; rw [hZ] at this; exact this
  have H2 : Hid (∀ W, Below w1.heap.size w1 W → Calls Try.prog 37 #[.slice A1 us.length c1, .int .i64 i, .slice B1 ys.length d1] W (RetP W (Z, v))) := Lib.hid (fun W hb => by
    have h := indexPut_any A1 c1 _ _ us i B1 d1 _ _ ys W (HX.out.step hb) (by omega) HS.out (Nat.le_refl _) (HY.out.step hb) (by omega) (Nat.le_refl _)
    rwa [hZ] at h)
  have H3 : Hid (∀ W, Below w1.heap.size w1 W → Calls Try.prog 36 #[.slice A1 us.length c1, .int .i64 i, .slice B1 ys.length d1] W (RetP W (Z, v))) := Lib.hid (fun W hb => by
    have h := indexPutS_any A1 c1 _ _ us i B1 d1 _ _ ys W (HX.out.step hb) (by omega) HS.out (Nat.le_refl _) (HY.out.step hb) (by omega) (Nat.le_refl _)
    rwa [hZ] at h)
  clear hZ
  go_wp2_with fail
  refine (H2.out w1 (Below.refl _ _)).mono ?_; intro e w2 h
  obtain ⟨A2, c2, vs, hvs, rfl, hV, hb2⟩ := h.rows
  have HB2 := Lib.hid hb2
  have HV := Lib.hid (hV.mono (Nat.zero_le _) (Nat.le_refl _))
  have HVS := Lib.hid hvs
  have hvl : vs.length ≤ 32 := by rw [rows_len hvs]; exact hzl
  clear h hb2 hV hvs
  go_wp2_with fail
  refine (H3.out w2 HB2.out).mono ?_; intro e w3 h
  obtain ⟨A3, c3, us3, hus3, rfl, hU3, hb3⟩ := h.rows
  have HB3 := Lib.hid (Below.step HB2.out hb3)
  replace HV := Lib.hid (HV.out.step hb3)
  have HU3 := Lib.hid (hU3.mono (Nat.zero_le _) (Nat.le_refl _))
  have HUS3 := Lib.hid hus3
  clear h hb3 hU3 hus3 HB2
  replace HX := Lib.hid (HX.out.step HB3.out)
  replace HY := Lib.hid (HY.out.step HB3.out)
  replace HB := Lib.hid (Below.step HB.out HB3.out)
  have H4 := Lib.hid (fun m => sameTable_eq A2 A3 c2 c3 _ _ _ _ vs us3 (w3.drewN m) (HV.out.drewN m) (HU3.out.drewN m) (by rw [HVS.out, HUS3.out]) (by omega) (fun t ht => by have := short_rows HVS.out HZS.out t ht; omega))
  clear H2 H3
  cases v
  · go_wp2_with fail
    refine (H4.out 0).mono ?_; rintro e w4 ⟨rfl, n4, rfl⟩
    go_wp2_with fail
    refine (H4.out n4).mono ?_; rintro e w5 ⟨rfl, n5, rfl⟩
    go_wp2_with fail
    go_ret
    exact ⟨by simp, Below.drewN HB.out _⟩
  go_wp2_with fail
  refine (H4.out 0).mono ?_; rintro e w4 ⟨rfl, n4, rfl⟩
  obtain ⟨k, rs, hik, hk16, ht, hrl, hrv, hyv, hz⟩ : ∃ (k : Nat) (rs : List (List Int)), i = k ∧ k < 16 ∧ us.map RowV.xs = tabL rs ∧ rs.length = 16 ∧ (∀ r, r ∈ rs → vecB r = true) ∧ vecB ys = true ∧ Z = tabL (rs.set k ys) := by
    rcases putR_cases (us.map RowV.xs) i ys with h | ⟨k, rs, h1, h2, h3, h4, h5, h6, h7⟩
    · rw [HZ.out] at h; simp at h
    · rw [HZ.out] at h7
      simp only [Prod.mk.injEq, and_true] at h7
      exact ⟨k, rs, h1, h2, h3, h4, h5, h6, h7⟩
  subst hik
  have HT := Lib.hid ht
  have HRL := Lib.hid hrl
  have HRV := Lib.hid hrv
  have HYV := Lib.hid hyv
  have HZT := Lib.hid hz
  have H32 : Hid (us.length = 32) := Lib.hid (by have := congrArg List.length ht; rw [tabL_len] at this; simpa using this)
  have H32v : Hid (vs.length = 32) := Lib.hid (by rw [rows_len HVS.out, hz, tabL_len])
  clear ht hrl hrv hyv hz HZ hib
  go_wp2_with fail
  go_loopw [10] (fun j wr => ∃ m : Nat, m ≤ 16 ∧ j = .int .i64 m ∧ Below w3.heap.size w3 wr) (fun j _ => 16 - (intOf j).toNat)
  case atStart => exact ⟨0, by omega, rfl, Below.drewN (Below.refl _ _) _⟩
  case round =>
    obtain ⟨m, hm16, rfl, hbw⟩ := hrel
    have HBW := Lib.hid hbw
    have hsw := hbw.size
    have HVW := Lib.hid (HV.out.below hbw (Nat.le_refl _))
    have HXW := Lib.hid (HX.out.below hbw (Nat.le_refl _))
    have HYW := Lib.hid (HY.out.below hbw (Nat.le_refl _))
    clear hbw
    by_cases hlt : m < 16
    · have hm16i : 16 + (m : Int) < vs.length := by have := H32v.out; omega
      have hm16u : 16 + (m : Int) < us.length := by have := H32.out; omega
      have hm16p : (0 : Int) ≤ 16 + (m : Int) := by omega
      have hmw : IntKind.i64.wrap (16 + (m : Int)) = 16 + (m : Int) := wrap_small (by omega)
      have hmlt : (m : Int) < 16 := by omega
      obtain ⟨b2, o2, r2, rfl, hr2, hc2, _, _, hI2⟩ := HVW.out.at_ (k := 16 + m) (by have := H32v.out; omega)
      have hr2x : (rs.set k ys)[m]? = some r2.xs := by
        have := xs_at hr2
        rw [HVS.out, HZT.out, tab_room (by simp [HRL.out]) hlt] at this
        exact this
      have hl2 : r2.xs.length ≤ 3 := short_rows HVS.out HZS.out r2 (List.mem_of_getElem? hr2)
      by_cases hmk : m = k
      · subst hmk
        have hxe : r2.xs = ys := by
          rw [List.getElem?_set_self (by rw [HRL.out]; exact hk16)] at hr2x
          exact (Option.some.inj hr2x).symm
        rw [hxe] at hI2 hc2
        have H9 := Lib.hid (fun q => sameInts_eq r2.a B1 r2.c d1 _ _ _ _ ys (wr.drewN q) (hI2.drewN q) (HYW.out.drewN q) (by omega))
        have hq1 : ((m : Int) == (m : Int)) = true := by simp
        have hq2 : ((m : Int) != (m : Int)) = false := by simp
        clear hr2 hI2 hr2x hl2 hxe
        go_wp2_with fail
        go_quiet (first | (go_at_call 28; refine Calls.quiet_of (H9.out _)))
        go_wp2_with fail
        exact ⟨⟨m + 1, by omega, by go_num, Below.drewN HBW.out _⟩, by simp [intOf]; omega⟩
      · obtain ⟨b3, o3, r3, rfl, hr3, hc3, _, _, hI3⟩ := HXW.out.at_ (k := 16 + m) (by have := H32.out; omega)
        have hxe : r2.xs = r3.xs := by
          have h3 := xs_at hr3
          rw [HT.out, tab_room HRL.out hlt] at h3
          rw [List.getElem?_set_ne (by omega), h3] at hr2x
          exact (Option.some.inj hr2x).symm
        rw [hxe] at hI2 hc2
        have H9 := Lib.hid (fun q => sameInts_eq r2.a r3.a r2.c r3.c _ _ _ _ r3.xs (wr.drewN q) (hI2.drewN q) (hI3.drewN q) (by rw [← hxe]; omega))
        have hq1 : ((m : Int) == (k : Int)) = false := by simp; omega
        have hq2 : ((m : Int) != (k : Int)) = true := by simp; omega
        clear hr2 hI2 hr2x hl2 hxe hr3 hI3
        go_wp2_with fail
        go_quiet (first | (go_at_call 28; refine Calls.quiet_of (H9.out _)))
        go_wp2_with fail
        exact ⟨⟨m + 1, by omega, by go_num, Below.drewN HBW.out _⟩, by simp [intOf]; omega⟩
    · have hmn : ¬ ((m : Int) < 16) := by omega
      have hv : idxB (vs.map RowV.xs) = true := by rw [HVS.out, HZT.out]; exact idxB_tab (by simp [HRL.out]) (set_vec HRV.out HYV.out)
      have h5 := indexValid_any A2 c2 _ _ vs wr HVW.out (by omega) (fun r hr => by have := short_rows HVS.out HZS.out r hr; omega) hsw
      rw [hv] at h5
      have H5 := Lib.hid h5
      clear hv h5
      go_wp2_with fail
      refine H5.out.mono ?_; rintro e w5 ⟨rfl, hb⟩
      have HB5 := Lib.hid (Below.step (Below.step HB.out HBW.out) hb)
      clear hb
      go_wp2_with fail
      go_ret
      exact ⟨by simp, HB5.out⟩
end Go.Proofs.Ytpjipofkpikipaa
