/- The walk of one statement: by the contracts of what it calls it returns true and changes nothing that was there. No condition. -/
import Derived.Test.YtpjipofkpikipaaIl
namespace Go.Proofs.Ytpjipofkpikipaa
open Go.RowKit
set_option maxHeartbeats 1000000 in
theorem FnIndexPart_walk (A : Option Addr) (n c : Nat) (w : World) (hA : BytesR w w.heap.size A n) (hc : n ≤ c) (hm : c ≤ maxLen) :
    Calls Try.prog 7 #[.slice A n c] w fun e w' => e = .returned (.bool true) ∧ Below w.heap.size w w' := by
  have HA := Lib.hid hA; clear hA
  by_cases hn : 1048576 < n
  · go_enter Try.func7, Try.ntmps7
    go_wp2
    go_ret
    exact ⟨by simp, Below.refl _ _⟩
  have hnd : ¬ ((1048576 : Int) < (n : Int)) := by omega
  have HB := Lib.hid (Below.refl w.heap.size w)
  go_enter Try.func7, Try.ntmps7
  go_wp2_with fail
  refine (DrawIndexValid_any A n c w HA.out hc hm).mono ?_; rintro e w1 ⟨A1, c1, us, rfl, hI, hl, hs, hb⟩
  replace HB := Lib.hid (Below.step HB.out hb)
  have HX := Lib.hid (hI.mono (Nat.zero_le _) (Nat.le_refl _))
  have HS : Hid (∀ r, r ∈ us → r.xs.length ≤ 1048576) := Lib.hid (fun r hr => by have := hs r hr; omega)
  clear hI hs hb
  obtain ⟨v, hv⟩ : ∃ v, idxB (us.map RowV.xs) = v := ⟨_, rfl⟩
  have HV := Lib.hid hv
  have H2 : Hid (∀ W, Below w1.heap.size w1 W → Calls Try.prog 27 #[.slice A1 us.length c1] W fun e w' => e = .returned (.bool v) ∧ Below W.heap.size W w') := Lib.hid (fun W hb => by
    have h := indexValid_any A1 c1 _ _ us W (HX.out.step hb) (by omega) HS.out (Nat.le_refl _)
    rwa [hv] at h)
  have H3 : Hid (∀ W, Below w1.heap.size w1 W → Calls Try.prog 26 #[.slice A1 us.length c1] W fun e w' => e = .returned (.bool v) ∧ Below W.heap.size W w') := Lib.hid (fun W hb => by
    have h := indexValidS_any A1 c1 _ _ us W (HX.out.step hb) (by omega) HS.out (Nat.le_refl _)
    rwa [hv] at h)
  clear hv
  go_wp2_with fail
  refine (H2.out w1 (Below.refl _ _)).mono ?_; rintro e w2 ⟨rfl, hb2⟩
  have HB2 := Lib.hid hb2
  clear hb2
  go_wp2_with fail
  refine (H3.out w2 HB2.out).mono ?_; rintro e w3 ⟨rfl, hb3⟩
  have HB3 := Lib.hid (Below.step HB2.out hb3)
  clear hb3 HB2
  replace HX := Lib.hid (HX.out.step HB3.out)
  replace HB := Lib.hid (Below.step HB.out HB3.out)
  clear H2 H3
  cases v
  · go_wp2_with fail
    go_ret
    exact ⟨by simp, HB.out⟩
  have H32 : Hid (us.length = 32) := Lib.hid (by
    obtain ⟨rs, h, _⟩ := idxB_form HV.out
    have := congrArg List.length h
    rw [tabL_len] at this; simpa using this)
  have hu1 : 1 ≤ us.length := by have := H32.out; omega
  have hu1i : (1 : Int) ≤ us.length := by omega
  have hlen := HX.out.len
  have hlci : (us.length : Int) ≤ c1 := by omega
  have hwr : IntKind.i64.wrap ((us.length : Int) - 1) = (us.length : Int) - 1 := wrap_small (by omega)
  obtain ⟨b1, o1, rfl, _⟩ := HX.out.1.form (by omega)
  obtain ⟨wA, hwA⟩ : ∃ W, W = w3.alloc (.cells #[] 28) := ⟨_, rfl⟩
  have hbA : Below w3.heap.size w3 (w3.alloc (.cells #[] 28)) := alloc_below w3 _
  have HW0 : Hid ((w3.alloc (.cells #[] 28)).ownsRow w3.heap.size 28 1 (.slice (some ⟨w3.heap.size, 0, none⟩) 0 0) 0 []) := Lib.hid (ownsRow_empty w3 28 1)
  have HXA := Lib.hid (HX.out.step hbA)
  have HBA := Lib.hid hbA
  have hs9 : w3.heap.size ≤ (w3.alloc (.cells #[] 28)).heap.size := by simp
  have hmx : 0 + us.length ≤ maxLen := by simp only [maxLen]; omega
  have hmy : (0 + us.length) * 24 ≤ 140737488355328 := by omega
  clear hbA hwA hlen
  obtain ⟨r0, hr0⟩ : ∃ r, us[0]? = some r := ⟨_, List.getElem?_eq_getElem (by omega)⟩
  have HQ : Hid (([] ++ us.map rcell)[0]? = some (.slice r0.a r0.xs.length r0.c)) := Lib.hid (by rw [List.nil_append, List.getElem?_map, hr0]; rfl)
  have hpos : 0 < 0 + us.length := by omega
  have hkn2 : 0 < (0 + us.length) * 1 := by omega
  clear hr0
  go_wp2_with (at_builtin; refine wpList_appC elS rfl (.tmp 26) (.tmp 27) rfl _ HW0.out (some ⟨b1, o1, none⟩) us.length c1 (us.map rcell) rfl rfl HXA.out.1 (rcell_one _) hs9 hmx hmy ?_; intro A2 c2 w4 hown hb2 _; obtain ⟨g, cap, he, hg1, hg2⟩ := hown.form hpos; simp only [Nat.zero_add, Value.slice.injEq, true_and] at he; obtain ⟨rfl, rfl⟩ := he; have HO := Lib.hid hown; have HB4 := Lib.hid (HBA.out.trans hb2); have hown5 := ownsRow_below hown (alloc_below w4 (.cells #[.int .i64 1, .int .i64 0, .int .i64 0] 3)); have hd0 := (hown5.cellAt 0 hkn2).trans HQ.out; have hf0 := hown5.frozenAt 0; clear hown hb2 hown5)
  have hO := HO.out
  rw [Nat.zero_add, List.nil_append] at hO
  have hs4 := HB4.out.size
  obtain ⟨w5, hw5⟩ : ∃ W, W = w4.setCell ⟨g, 0, none⟩ (.slice (some ⟨w4.heap.size, 0, none⟩) 3 3) := ⟨_, rfl⟩
  have hs5 : w5.heap.size = w4.heap.size := by rw [hw5]; simp [World.setCell]
  have hst := (hO.stored 0 (.slice (some ⟨w4.heap.size, 0, none⟩) 3 3)).1
  rw [← hw5] at hst ⊢
  have hb5 : Below w3.heap.size w3 w5 := by rw [hw5]; exact HB4.out.setCell (p := ⟨g, 0, none⟩) hg1 _
  obtain ⟨w6, hw6⟩ : ∃ W, W = w5.alloc (.cells #[.int .i64 1, .int .i64 0, .int .i64 0] 3) := ⟨_, rfl⟩
  have hb56 : Below w5.heap.size w5 w6 := by rw [hw6]; exact alloc_below w5 _
  have hI6 : Ints w6 0 w6.heap.size (some ⟨w4.heap.size, 0, none⟩) 3 [1, 0, 0] := by rw [hw6, ← hs5]; exact ints_lit3 w5 _ 1 0 0
  rw [← hw6]
  have hb6 : Below w3.heap.size w3 w6 := hb5.trans (hb56.mono (by omega))
  have hX6 := HX.out.step hb6
  have hst6 := ownsRow_below hst hb56
  have hR : Rws w6 0 w6.heap.size (some ⟨g, 0, none⟩) c2 (us.set 0 ⟨some ⟨w4.heap.size, 0, none⟩, 3, [1, 0, 0]⟩) := by
    obtain ⟨A9, c9, he, hR⟩ := Rws.of_own (lo := 0) (rs := us.set 0 ⟨some ⟨w4.heap.size, 0, none⟩, 3, [1, 0, 0]⟩) (by rw [List.map_set]; exact hst6) (by rw [List.length_set]) (fun r hr => by
      rcases List.mem_or_eq_of_mem_set hr with h | rfl
      · exact hX6.2 r h
      · exact hI6) (Nat.zero_le _)
    simp only [Value.slice.injEq] at he
    obtain ⟨rfl, -, rfl⟩ := he
    exact hR
  have e1 : idxB ((us.take (us.length - 1)).map RowV.xs) = false := idxB_len (by rw [List.length_map, List.length_take]; have := H32.out; omega)
  have e2 : idxB ((us.set 0 ⟨some ⟨w4.heap.size, 0, none⟩, 3, [1, 0, 0]⟩).map RowV.xs) = false := by rw [List.map_set]; exact idxB_head (by rw [List.length_map]; omega)
  have h1 := indexValid_any (some ⟨b1, o1, none⟩) c1 _ _ (us.take (us.length - 1)) w6 (hX6.take (by omega)) (by rw [List.length_take]; omega) (fun r hr => HS.out r (List.mem_of_mem_take hr)) (Nat.le_refl _)
  rw [e1, List.length_take, Nat.min_eq_left (by omega)] at h1
  have H1 := Lib.hid h1
  have H2 : Hid (∀ W, Below w6.heap.size w6 W → Calls Try.prog 27 #[.slice (some ⟨g, 0, none⟩) us.length c2] W fun e w' => e = .returned (.bool false) ∧ Below W.heap.size W w') := Lib.hid (fun W hb => by
    have h := indexValid_any (some ⟨g, 0, none⟩) c2 _ _ (us.set 0 ⟨some ⟨w4.heap.size, 0, none⟩, 3, [1, 0, 0]⟩) W (hR.step hb) (by rw [List.length_set]; omega) (fun r hr => by
      rcases List.mem_or_eq_of_mem_set hr with h | rfl
      · exact HS.out r h
      · simp) (Nat.le_refl _)
    rwa [e2, List.length_set] at h)
  have HB6 := Lib.hid (Below.step HB.out hb6)
  clear hO hw5 hs5 hst hb5 hw6 hb56 hI6 hb6 hX6 hst6 hR e1 e2 h1
  refine H1.out.mono ?_; rintro e w7 ⟨rfl, hb7⟩
  have HB7 := Lib.hid hb7
  clear hb7
  go_wp2_with fail
  refine (H2.out w7 HB7.out).mono ?_; rintro e w8 ⟨rfl, hb8⟩
  have HB8 := Lib.hid (Below.step (Below.step HB6.out HB7.out) hb8)
  clear hb8
  go_wp2_with fail
  go_ret
  exact ⟨by simp, HB8.out⟩
end Go.Proofs.Ytpjipofkpikipaa
