/- The walk of one statement: by the contracts of what it calls it returns true and changes nothing that was there. No condition. -/
import Derived.Test.YtpjipofkpikipaaIl
namespace Go.Proofs.Ytpjipofkpikipaa
open Go.RowKit
set_option maxHeartbeats 1000000 in
theorem FnIndexPutWay_walk (A : Option Addr) (n c : Nat) (w : World) (hA : BytesR w w.heap.size A n) (hc : n ≤ c) (hm : c ≤ maxLen) :
    Calls Try.prog 15 #[.slice A n c] w fun e w' => e = .returned (.bool true) ∧ Below w.heap.size w w' := by
  have HA := Lib.hid hA; clear hA
  by_cases hn : 1048576 < n
  · go_enter Try.func15, Try.ntmps15
    go_wp2
    go_ret
    exact ⟨by simp, Below.refl _ _⟩
  have hnd : ¬ ((1048576 : Int) < (n : Int)) := by omega
  have HB := Lib.hid (Below.refl w.heap.size w)
  go_enter Try.func15, Try.ntmps15
  go_wp2_with fail
  refine (DrawIndexPut_any A n c w HA.out hc hm).mono ?_; rintro e w1 ⟨A1, c1, us, i, B1, d1, ys, rfl, hI, hl, hs, hib, hY, hly, hyz, hb⟩
  replace HB := Lib.hid (Below.step HB.out hb)
  have HX := Lib.hid (hI.mono (Nat.zero_le _) (Nat.le_refl _))
  have HY := Lib.hid (hY.mono (Nat.zero_le _) (Nat.le_refl _))
  have HS : Hid (∀ r, r ∈ us → r.xs.length ≤ 1048576) := Lib.hid (fun r hr => by have := hs r hr; omega)
  clear hI hs hb hY hyz
  obtain ⟨Z, v, hZ⟩ : ∃ Z v, putR (us.map RowV.xs) i ys = (Z, v) := ⟨_, _, rfl⟩
  have HZ := Lib.hid hZ
  have HZS : Hid (∀ r, r ∈ Z → r.length ≤ 3) := Lib.hid (by have := putR_short (t := us.map RowV.xs) (i := i) (room := ys); rw [hZ] at this; exact this)
  have hzl : Z.length ≤ 32 := by have := putR_len (us.map RowV.xs) i ys; rw [hZ] at this; exact this
  have H2 : Hid (∀ W, Below w1.heap.size w1 W → Calls Try.prog 37 #[.slice A1 us.length c1, .int .i64 i, .slice B1 ys.length d1] W (RetP W (Z, v))) := Lib.hid (fun W hb => by
    have h := indexPut_any A1 c1 _ _ us i B1 d1 _ _ ys W (HX.out.step hb) (by omega) HS.out (Nat.le_refl _) (HY.out.step hb) (by omega) (Nat.le_refl _)
    rwa [hZ] at h)
  have H3 : Hid (∀ W, Below w1.heap.size w1 W → Calls Try.prog 36 #[.slice A1 us.length c1, .int .i64 i, .slice B1 ys.length d1] W (RetP W (Z, v))) := Lib.hid (fun W hb => by
    have h := indexPutS_any A1 c1 _ _ us i B1 d1 _ _ ys W (HX.out.step hb) (by omega) HS.out (Nat.le_refl _) (HY.out.step hb) (by omega) (Nat.le_refl _)
    rwa [hZ] at h)
  clear hZ
  go_wp2_with fail
  refine (H2.out w1 (Below.refl _ _)).mono ?_; intro e w2 h
  obtain ⟨A2, c2, vs, hvs, rfl, hV, hb2⟩ := h.rows
  have HB2 := Lib.hid hb2
  have HV := Lib.hid (hV.mono (Nat.zero_le _) (Nat.le_refl _))
  have HVS := Lib.hid hvs
  have hvl : vs.length ≤ 32 := by rw [rows_len hvs]; exact hzl
  clear h hb2 hV hvs
  go_wp2_with fail
  refine (H3.out w2 HB2.out).mono ?_; intro e w3 h
  obtain ⟨A3, c3, us3, hus3, rfl, hU3, hb3⟩ := h.rows
  have HB3 := Lib.hid (Below.step HB2.out hb3)
  replace HV := Lib.hid (HV.out.step hb3)
  have HU3 := Lib.hid (hU3.mono (Nat.zero_le _) (Nat.le_refl _))
  have HUS3 := Lib.hid hus3
  clear h hb3 hU3 hus3 HB2
  replace HX := Lib.hid (HX.out.step HB3.out)
  replace HY := Lib.hid (HY.out.step HB3.out)
  replace HB := Lib.hid (Below.step HB.out HB3.out)
  have H4 := Lib.hid (fun m => sameTable_eq A2 A3 c2 c3 _ _ _ _ vs us3 (w3.drewN m) (HV.out.drewN m) (HU3.out.drewN m) (by rw [HVS.out, HUS3.out]) (by omega) (fun t ht => by have := short_rows HVS.out HZS.out t ht; omega))
  clear H2 H3
  cases v
  · go_wp2_with fail
    refine (H4.out 0).mono ?_; rintro e w4 ⟨rfl, n4, rfl⟩
    go_wp2_with fail
    refine (H4.out n4).mono ?_; rintro e w5 ⟨rfl, n5, rfl⟩
    go_wp2_with fail
    go_ret
    exact ⟨by simp, Below.drewN HB.out _⟩
  go_wp2_with fail
  refine (H4.out 0).mono ?_; rintro e w4 ⟨rfl, n4, rfl⟩
  obtain ⟨k, rs, hik, hk16, ht, hrl, hrv, hyv, hz⟩ : ∃ (k : Nat) (rs : List (List Int)), i = k ∧ k < 16 ∧ us.map RowV.xs = tabL rs ∧ rs.length = 16 ∧ (∀ r, r ∈ rs → vecB r = true) ∧ vecB ys = true ∧ Z = tabL (rs.set k ys) := by
    rcases putR_cases (us.map RowV.xs) i ys with h | ⟨k, rs, h1, h2, h3, h4, h5, h6, h7⟩
    · rw [HZ.out] at h; simp at h
    · rw [HZ.out] at h7
      simp only [Prod.mk.injEq, and_true] at h7
      exact ⟨k, rs, h1, h2, h3, h4, h5, h6, h7⟩
  subst hik
  have HT := Lib.hid ht
  have HRL := Lib.hid hrl
  have HRV := Lib.hid hrv
  have HYV := Lib.hid hyv
  have HZT := Lib.hid hz
  have H32 : Hid (us.length = 32) := Lib.hid (by have := congrArg List.length ht; rw [tabL_len] at this; simpa using this)
  have H32v : Hid (vs.length = 32) := Lib.hid (by rw [rows_len HVS.out, hz, tabL_len])
  clear ht hrl hrv hyv hz HZ hib
  go_wp2_with fail
  go_loopw [10] (fun j wr => ∃ m : Nat, 1 ≤ m ∧ m ≤ 32 ∧ j = .int .i64 m ∧ Below w3.heap.size w3 wr) (fun j _ => 32 - (intOf j).toNat)
  case atStart => exact ⟨1, by omega, by omega, rfl, Below.drewN (Below.refl _ _) _⟩
  case round =>
    obtain ⟨m, hm1, hm32, rfl, hbw⟩ := hrel
    have HBW := Lib.hid hbw
    have hsw := hbw.size
    have HVW := Lib.hid (HV.out.below hbw (Nat.le_refl _))
    have HXW := Lib.hid (HX.out.below hbw (Nat.le_refl _))
    clear hbw
    by_cases hlt : m < 32
    · have hmlt : (m : Int) < 32 := by omega
      have hkw : IntKind.i64.wrap (16 + (k : Int)) = 16 + (k : Int) := wrap_small (by omega)
      go_wp2_with fail
      go_loopw [11, 12] (fun ab kk wq => ∃ d : Nat, ∃ q : Nat, ∃ b : Bool, ∃ x : Nat, d ≤ 5 ∧ x = (16 + k) / 2 ^ d ∧ kk = .int .i64 x ∧ ab = .bool b ∧ (b = true ↔ ∃ e, e < d ∧ (16 + k) / 2 ^ e = m) ∧ wq = wr.drewN q) (fun _ kk _ => (intOf kk).toNat)
      case atStart => exact ⟨0, 0, false, 16 + k, by omega, by simp, by simp, rfl, by simp, rfl⟩
      case round =>
        obtain ⟨d, q, b, x, hd, hx, rfl, rfl, hb, rfl⟩ := hrel
        have HX2 := Lib.hid hx
        have HBB := Lib.hid hb
        clear hx hb
        have h32k : (16 + k) / 2 ^ 5 = 0 := Nat.div_eq_of_lt (by omega)
        by_cases hx1 : 1 ≤ x
        · have hd4 : d < 5 := by
            rcases Nat.lt_or_ge d 5 with h | h
            · exact h
            · obtain rfl : d = 5 := by omega
              have := HX2.out; omega
          have hdv : (x : Int) / 2 = ((x / 2 : Nat) : Int) := by omega
          obtain ⟨y, hy⟩ : ∃ y, x / 2 = y := ⟨_, rfl⟩
          rw [hy] at hdv
          have HY2 : Hid (y = (16 + k) / 2 ^ (d + 1)) := Lib.hid (by rw [← hy, HX2.out, Nat.div_div_eq_div_mul, ← Nat.pow_succ])
          have hyx : y < x := by omega
          have hx31 : x ≤ 31 := by have := HX2.out; have := Nat.div_le_self (16 + k) (2 ^ d); omega
          have hyw : IntKind.i64.wrap (y : Int) = (y : Int) := wrap_small (by omega)
          have hx1i : (1 : Int) ≤ x := by omega
          have HDV := Lib.hid hy
          clear hy h32k
          cases b
          · by_cases hxm : x = m
            · subst hxm
              have HN : Hid (true = true ↔ ∃ e, e < d + 1 ∧ (16 + k) / 2 ^ e = x) := Lib.hid ⟨fun _ => ⟨d, by omega, HX2.out.symm⟩, fun _ => rfl⟩
              go_wp2_with fail
              have hy := HDV.out
              go_roundw
              case rel => exact ⟨d + 1, q, true, y, by omega, HY2.out, by go_num, by simp, HN.out, rfl⟩
              case measure => simp [intOf]; omega
            · have hxmi : ((x : Int) == (m : Int)) = false := by simp only [beq_eq_false_iff_ne, ne_eq]; omega
              have HN : Hid (false = true ↔ ∃ e, e < d + 1 ∧ (16 + k) / 2 ^ e = m) := Lib.hid ⟨fun h => (by cases h), fun ⟨e, h1, h2⟩ => by
                by_cases hed : e = d
                · subst hed; rw [← HX2.out] at h2; exact absurd h2 hxm
                · exact HBB.out.2 ⟨e, by omega, h2⟩⟩
              go_wp2_with fail
              have hy := HDV.out
              go_roundw
              case rel => exact ⟨d + 1, q, false, y, by omega, HY2.out, by go_num, by simp, HN.out, rfl⟩
              case measure => simp [intOf]; omega
          · have HN : Hid (true = true ↔ ∃ e, e < d + 1 ∧ (16 + k) / 2 ^ e = m) := Lib.hid ⟨fun _ => by
              obtain ⟨e, h1, h2⟩ := HBB.out.1 rfl
              exact ⟨e, by omega, h2⟩, fun _ => rfl⟩
            go_wp2_with fail
            have hy := HDV.out
            go_roundw
            case rel => exact ⟨d + 1, q, true, y, by omega, HY2.out, by go_num, by simp, HN.out, rfl⟩
            case measure => simp [intOf]; omega
        · have hx1i : ¬ ((1 : Int) ≤ x) := by omega
          have hx0 : x = 0 := by omega
          cases b
          · have hway : ∀ e, e < 5 → (16 + k) / 2 ^ e ≠ m := fun e he h => by
              by_cases hed : e < d
              · have := HBB.out.2 ⟨e, hed, h⟩; cases this
              · have h1 : (16 + k) / 2 ^ e ≤ (16 + k) / 2 ^ d := Nat.div_le_div_left (Nat.pow_le_pow_right (by omega) (by omega)) (Nat.pos_of_ne_zero (by simp))
                have h2 := HX2.out
                omega
            obtain ⟨b2, o2, r2, rfl, hr2, hc2, _, _, hI2⟩ := HVW.out.at_ (k := m) (by have := H32v.out; omega)
            obtain ⟨b3, o3, r3, rfl, hr3, hc3, _, _, hI3⟩ := HXW.out.at_ (k := m) (by have := H32.out; omega)
            have hxe : r2.xs = r3.xs := by
              have h2 := xs_at hr2
              have h3 := xs_at hr3
              rw [HVS.out, HZT.out, tabL_at _ hm1 hlt, node_way ys hm1 hlt hway] at h2
              rw [HT.out, tabL_at _ hm1 hlt] at h3
              rw [← Option.some.inj h2, Option.some.inj h3]
            have hl2 : r2.xs.length ≤ 3 := short_rows HVS.out HZS.out r2 (List.mem_of_getElem? hr2)
            rw [hxe] at hI2 hc2
            have H9 := Lib.hid (fun u => sameInts_eq r2.a r3.a r2.c r3.c _ _ _ _ r3.xs (wr.drewN u) (hI2.drewN u) (hI3.drewN u) (by rw [← hxe]; omega))
            have hmv : (m : Int) < vs.length := by have := H32v.out; omega
            have hmu : (m : Int) < us.length := by have := H32.out; omega
            have hm0 : (0 : Int) ≤ m := by omega
            clear hr2 hI2 hl2 hxe hr3 hI3 hway h32k
            go_wp2_with fail
            go_region_held3 (fun w' => w'.cell? ⟨b2, o2 + m, none⟩ = some (.slice r2.a r3.xs.length r2.c) ∧ w'.cell? ⟨b3, o3 + m, none⟩ = some (.slice r3.a r3.xs.length r3.c)) (exact ⟨hc2, hc3⟩)
              (first | (go_at_call 28; refine (H9.out _).mono ?_; rintro e w5 ⟨rfl, n5, rfl⟩))
            go_wp2_with fail
            exact ⟨⟨m + 1, by omega, by omega, by go_num, Below.drewN HBW.out _⟩, by simp [intOf]; omega⟩
          · go_wp2_with fail
            go_quiet (fail)
            go_wp2_with fail
            exact ⟨⟨m + 1, by omega, by omega, by go_num, Below.drewN HBW.out _⟩, by simp [intOf]; omega⟩
    · have hmn : ¬ ((m : Int) < 32) := by omega
      go_wp2_with fail
      go_ret
      exact ⟨by simp, Below.step HB.out HBW.out⟩
end Go.Proofs.Ytpjipofkpikipaa
