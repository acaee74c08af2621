/- The walk of one statement: by the contracts of what it calls it returns true and changes nothing that was there. No condition. -/
import Derived.Test.YtpjipofkpikipaaIl
namespace Go.Proofs.Ytpjipofkpikipaa
open Go.RowKit
theorem FnIndex_walk (A : Option Addr) (n c : Nat) (w : World) (hA : BytesR w w.heap.size A n) (hc : n ≤ c) (hm : c ≤ maxLen) :
    Calls Try.prog 6 #[.slice A n c] w fun e w' => e = .returned (.bool true) ∧ Below w.heap.size w w' := by
  have HA := Lib.hid hA; clear hA
  by_cases hn : 1048576 < n
  · go_enter Try.func6, Try.ntmps6
    go_wp2
    go_ret
    exact ⟨by simp, Below.refl _ _⟩
  have hnd : ¬ ((1048576 : Int) < (n : Int)) := by omega
  have HB := Lib.hid (Below.refl w.heap.size w)
  go_enter Try.func6, Try.ntmps6
  go_wp2_with fail
  refine (DrawIndexOf_any A n c w HA.out hc hm).mono ?_; rintro e w1 ⟨A1, c1, rs, rfl, hI, hl, hs, hb⟩
  replace HB := Lib.hid (Below.step HB.out hb)
  have HX := Lib.hid (hI.mono (Nat.zero_le _) (Nat.le_refl _))
  have HS := Lib.hid hs
  clear hI hs hb
  obtain ⟨Z, hZ⟩ : ∃ Z, idxOf (rs.map RowV.xs) = Z := ⟨_, rfl⟩
  have h2 := indexOf_any A1 c1 _ _ rs w1 HX.out (by omega) (fun r hr => by have := HS.out r hr; omega) (Nat.le_refl _)
  rw [hZ] at h2
  have H2 := Lib.hid h2
  have H3 := Lib.hid (fun w2 (hb : Below w1.heap.size w1 w2) => indexOfS_any A1 c1 _ _ rs w2 (HX.out.step hb) (by omega) (fun r hr => by have := HS.out r hr; omega) (Nat.le_refl _))
  have h3 := H3.out
  rw [hZ] at h3
  replace H3 := Lib.hid h3
  have HZ := Lib.hid hZ
  have HZS : Hid (∀ r, r ∈ Z → r.length ≤ 3) := Lib.hid (by rw [← hZ]; exact idxOf_short _)
  have hzl : Z.length ≤ 32 := by rw [← hZ]; exact idxOf_le _
  clear hZ h2 h3
  go_wp2_with fail
  refine H2.out.mono ?_; intro e w2 h
  obtain ⟨A2, c2, us, hus, rfl, hU, hb⟩ := h.rows
  replace HB := Lib.hid (Below.step HB.out hb)
  replace HX := Lib.hid (HX.out.step hb)
  have HU := Lib.hid (hU.mono (Nat.zero_le _) (Nat.le_refl _))
  have HUS := Lib.hid hus
  have hul : us.length ≤ 32 := by rw [rows_len hus]; exact hzl
  have H3b := Lib.hid (H3.out w2 hb)
  clear h hU hus hb H2 H3
  go_wp2_with fail
  refine H3b.out.mono ?_; intro e w3 h
  obtain ⟨A3, c3, vs, hvs, rfl, hV, hb⟩ := h.rows
  replace HB := Lib.hid (Below.step HB.out hb)
  replace HX := Lib.hid (HX.out.step hb)
  replace HU := Lib.hid (HU.out.step hb)
  have HV := Lib.hid (hV.mono (Nat.zero_le _) (Nat.le_refl _))
  have HVS := Lib.hid hvs
  clear h hV hvs hb H3b
  have H4 := Lib.hid (fun m => sameTable_eq A2 A3 c2 c3 _ _ _ _ us vs (w3.drewN m) (HU.out.drewN m) (HV.out.drewN m) (by rw [HUS.out, HVS.out]) (by omega) (fun t ht => by have := short_rows HUS.out HZS.out t ht; omega))
  have h0' : vs.length = Z.length := rows_len HVS.out
  have H0 := Lib.hid h0'
  clear h0'
  go_wp2_with fail
  refine (H4.out 0).mono ?_; rintro e w4 ⟨rfl, n4, rfl⟩
  by_cases h0 : vs.length = 0
  · have h0i : ((vs.length : Int) == 0) = true := by rw [h0]; rfl
    have h0h := Lib.hid h0
    clear h0
    go_wp2_with fail
    refine (H4.out n4).mono ?_; rintro e w5 ⟨rfl, n5, rfl⟩
    go_wp2_with fail
    go_ret
    exact ⟨by simp, Below.drewN HB.out _⟩
  · have h0i : ((vs.length : Int) == 0) = false := by simp only [beq_eq_false_iff_ne, ne_eq]; omega
    have hz0 : (idxOf (rs.map RowV.xs)).length ≠ 0 := by have := H0.out; rw [HZ.out]; omega
    have HZ0 := Lib.hid hz0
    have hz32 : us.length = 32 := by
      rcases idxOf_len (rs.map RowV.xs) with h | h
      · exact absurd h hz0
      · rw [rows_len HUS.out, ← HZ.out]; exact h
    have HU32 := Lib.hid hz32
    have h1u : 1 < us.length := by omega
    have h1ui : (1 : Int) < us.length := by omega
    clear hz0 hz32
    go_wp2_with fail
    go_loopw [6] (fun i wr => ∃ k : Nat, k ≤ 16 ∧ i = .int .i64 k ∧ Below w3.heap.size w3 wr) (fun i _ => 16 - (intOf i).toNat)
    case atStart => exact ⟨0, by omega, rfl, Below.drewN (Below.refl _ _) _⟩
    case round =>
      obtain ⟨k, hk, rfl, hb⟩ := hrel
      have HBL := Lib.hid hb
      have hsl := hb.size
      clear hb
      by_cases hlt : k < 16
      · have hklt : (k : Int) < 16 := by omega
        have hk0 : (0 : Int) ≤ k := by omega
        have hk16 : 16 + (k : Int) < us.length := by have := HU32.out; omega
        have hk16p : (0 : Int) ≤ 16 + (k : Int) := by omega
        have hkw : IntKind.i64.wrap (16 + (k : Int)) = 16 + (k : Int) := wrap_small (by omega)
        have hbA : Below w3.heap.size w3 (wr.alloc (.cells #[.int .i64 0, .int .i64 0, .int .i64 0] 3)) := HBL.out.alloc hsl _
        have HBA := Lib.hid hbA
        have hIz : Ints (wr.alloc (.cells #[.int .i64 0, .int .i64 0, .int .i64 0] 3)) wr.heap.size (wr.alloc (.cells #[.int .i64 0, .int .i64 0, .int .i64 0] 3)).heap.size (some ⟨wr.heap.size, 0, none⟩) 3 [0, 0, 0] := ints_lit0 wr
        have HIZ := Lib.hid hIz
        obtain ⟨b2, o2, r2, rfl, hr2, hc2, _, _, hI2⟩ := (HU.out.below hbA (Nat.le_refl _)).at_ (k := 16 + k) (by have := HU32.out; omega)
        have hz2 : some r2.xs = (idxOf (rs.map RowV.xs))[16 + k]? := by
          rw [HZ.out, ← HUS.out]
          exact (xs_at hr2).symm
        have hl2 : r2.xs.length ≤ 3 := short_rows HUS.out HZS.out r2 (List.mem_of_getElem? hr2)
        clear hbA hIz hr2
        by_cases hkr : k < rs.length
        · obtain ⟨b1, o1, r1, rfl, hr1, hc1, _, _, hI1⟩ := (HX.out.below HBA.out (Nat.le_refl _)).at_ hkr
          have hxr : r2.xs = r1.xs := by
            rw [idxOf_room HZ0.out hlt, xs_at hr1] at hz2
            exact Option.some.inj hz2
          rw [hxr] at hI2 hc2
          have h9 := fun m => sameInts_eq r2.a r1.a r2.c r1.c _ _ _ _ r1.xs ((wr.alloc (.cells #[.int .i64 0, .int .i64 0, .int .i64 0] 3)).drewN m) (hI2.drewN m) (hI1.drewN m) (by rw [← hxr]; omega)
          have H9 := Lib.hid h9
          have hkri : (k : Int) < rs.length := by omega
          clear hI1 hI2 h9 hr1 hxr hz2 hl2
          go_wp2_with fail
          refine (H9.out 0).mono ?_; rintro e w5 ⟨rfl, n5, rfl⟩
          go_wp2_with fail
          exact ⟨⟨k + 1, by omega, by go_num, Below.drewN HBA.out n5⟩, by simp [intOf]; omega⟩
        · have hxr : r2.xs = [0, 0, 0] := by
            rw [idxOf_room HZ0.out hlt, List.getElem?_eq_none (by rw [List.length_map]; omega)] at hz2
            exact Option.some.inj hz2
          rw [hxr] at hI2 hc2
          have h9 := fun m => sameInts_eq r2.a (some ⟨wr.heap.size, 0, none⟩) r2.c 3 _ _ _ _ [0, 0, 0] ((wr.alloc (.cells #[.int .i64 0, .int .i64 0, .int .i64 0] 3)).drewN m) (hI2.drewN m) (HIZ.out.drewN m) (by simp)
          have H9 := Lib.hid h9
          have hkri : ¬ ((k : Int) < rs.length) := by omega
          clear hI2 h9 hxr hz2 hl2
          go_wp2_with fail
          refine (H9.out 0).mono ?_; rintro e w5 ⟨rfl, n5, rfl⟩
          go_wp2_with fail
          exact ⟨⟨k + 1, by omega, by go_num, Below.drewN HBA.out n5⟩, by simp [intOf]; omega⟩
      · have hkn : ¬ ((k : Int) < 16) := by omega
        have HUL := Lib.hid (HU.out.below HBL.out (Nat.le_refl _))
        have hv : idxB (us.map RowV.xs) = true := by rw [HUS.out, ← HZ.out]; exact (idxOf_valid HZ0.out).1
        have h5 := indexValid_any A2 c2 _ _ us wr HUL.out (by omega) (fun r hr => by have := short_rows HUS.out HZS.out r hr; omega) hsl
        rw [hv] at h5
        have H5 := Lib.hid h5
        have HB3 := HB
        have hu32i : ((us.length : Int) == 32) = true := by rw [HU32.out]; rfl
        clear hv h5
        go_wp2_with fail
        refine H5.out.mono ?_; rintro e w5 ⟨rfl, hb⟩
        have HB5 := Lib.hid (Below.step (Below.step HB.out HBL.out) hb)
        clear hb
        go_wp2_with fail
        go_ret
        exact ⟨by simp, HB5.out⟩
end Go.Proofs.Ytpjipofkpikipaa
