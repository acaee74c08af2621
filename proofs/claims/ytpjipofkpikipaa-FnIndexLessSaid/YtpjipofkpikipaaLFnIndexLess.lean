/- The walk of one statement: by the contracts of what it calls it returns true and changes nothing that was there. No condition. -/
import Derived.Test.YtpjipofkpikipaaIl
namespace Go.Proofs.Ytpjipofkpikipaa
open Go.RowKit
set_option maxRecDepth 10000 in
set_option maxHeartbeats 1000000 in
theorem FnIndexLess_walk (A : Option Addr) (n c : Nat) (A' : Option Addr) (n' c' : Nat) (w : World) (hA : BytesR w w.heap.size A n) (hc : n ≤ c) (hm : c ≤ maxLen) (_hA' : BytesR w w.heap.size A' n') (_hc' : n' ≤ c') (_hm' : c' ≤ maxLen) :
    Calls Try.prog 9 #[.slice A n c, .slice A' n' c'] w fun e w' => e = .returned (.bool true) ∧ Below w.heap.size w w' := by
  have HA := Lib.hid hA; clear hA
  by_cases hn : 1048576 < n
  · go_enter Try.func9, Try.ntmps9
    go_wp2
    go_ret
    exact ⟨by simp, Below.refl _ _⟩
  by_cases hn' : 1048576 < n'
  · have hnd : ¬ ((1048576 : Int) < (n : Int)) := by omega
    go_enter Try.func9, Try.ntmps9
    go_wp2
    go_ret
    exact ⟨by simp, Below.refl _ _⟩
  have hnd : ¬ ((1048576 : Int) < (n : Int)) := by omega
  have hnd' : ¬ ((1048576 : Int) < (n' : Int)) := by omega
  have HB := Lib.hid (Below.refl w.heap.size w)
  go_enter Try.func9, Try.ntmps9
  go_wp2_with fail
  refine (DrawIndexFirst_any A n c w HA.out hc hm).mono ?_; rintro e w1 ⟨A1, c1, us, B1, d1, ys, rfl, hI, hl, hs, hY, hly, hyz, hb⟩
  replace HB := Lib.hid (Below.step HB.out hb)
  have HX := Lib.hid (hI.mono (Nat.zero_le _) (Nat.le_refl _))
  have HY := Lib.hid (hY.mono (Nat.zero_le _) (Nat.le_refl _))
  have HS : Hid (∀ r, r ∈ us → r.xs.length ≤ 1048576) := Lib.hid (fun r hr => by have := hs r hr; omega)
  clear hI hs hb hY hyz
  obtain ⟨F, hF⟩ : ∃ F, firstI (us.map RowV.xs) ys = F := ⟨_, rfl⟩
  have HF := Lib.hid hF
  have H2 : Hid (∀ W, Below w1.heap.size w1 W → Calls Try.prog 32 #[.slice A1 us.length c1, .slice B1 ys.length d1] W fun e w' => e = .returned (.int .i64 F) ∧ Below W.heap.size W w') := Lib.hid (fun W hb => by
    have h := indexFirst_any A1 c1 _ _ us B1 d1 _ _ ys W (HX.out.step hb) (by omega) HS.out (Nat.le_refl _) (HY.out.step hb) (by omega) (Nat.le_refl _)
    rwa [hF] at h)
  have H3 : Hid (∀ W, Below w1.heap.size w1 W → Calls Try.prog 30 #[.slice A1 us.length c1, .slice B1 ys.length d1] W fun e w' => e = .returned (.int .i64 F) ∧ Below W.heap.size W w') := Lib.hid (fun W hb => by
    have h := indexFirstS_any A1 c1 _ _ us B1 d1 _ _ ys W (HX.out.step hb) (by omega) HS.out (Nat.le_refl _) (HY.out.step hb) (by omega) (Nat.le_refl _)
    rwa [hF] at h)
  clear hF
  go_wp2_with fail
  refine (H2.out w1 (Below.refl _ _)).mono ?_; rintro e w2 ⟨rfl, hb2⟩
  have HB2 := Lib.hid hb2
  clear hb2
  go_wp2_with fail
  refine (H3.out w2 HB2.out).mono ?_; rintro e w3 ⟨rfl, hb3⟩
  have HB3 := Lib.hid (Below.step HB2.out hb3)
  clear hb3 HB2
  replace HX := Lib.hid (HX.out.step HB3.out)
  replace HY := Lib.hid (HY.out.step HB3.out)
  replace HB := Lib.hid (Below.step HB.out HB3.out)
  have hne : (F != F) = false := by simp
  have heq : (F == F) = true := by simp
  by_cases hF0 : F < 0
  · go_wp2_with fail
    go_ret
    exact ⟨by simp, HB.out⟩
  have H32i : Hid (idxB (us.map RowV.xs) = true ∧ vecB ys = true) := Lib.hid (by
    rcases firstI_cases (us.map RowV.xs) ys with ⟨e, _⟩ | ⟨h1, h2, _⟩
    · rw [HF.out] at e; omega
    · exact ⟨h1, h2⟩)
  have HY3 : Hid (ys.length = 3) := Lib.hid (vec_len H32i.out.2)
  obtain ⟨k, hk, hk3⟩ : ∃ k : Nat, (n' : Int) % 3 = k ∧ k < 3 := ⟨n' % 3, by omega, Nat.mod_lt _ (by omega)⟩
  obtain ⟨bq, oq, u, rfl, hu, hcu, _, _, _⟩ := HY.out.at_ (k := k) (by rw [HY3.out]; exact hk3)
  have hub := vec_at H32i.out.2 hu
  have HU := Lib.hid hu
  have HW0 : Hid ((w3.alloc (.cells #[] 3)).ownsRow w3.heap.size 3 1 (.slice (some ⟨w3.heap.size, 0, none⟩) 0 0) 0 []) := Lib.hid (ownsRow_empty w3 3 1)
  have HYA := Lib.hid (HY.out.step (alloc_below w3 (.cells #[] 3))).r
  have HBA := Lib.hid (alloc_below w3 (.cells #[] 3))
  have hs9 : w3.heap.size ≤ (w3.alloc (.cells #[] 3)).heap.size := by simp
  have hyl2 : 0 + ys.length ≤ 1099511627776 := by omega
  have hpos : 0 < 0 + ys.length := by have := HY3.out; omega
  have hkn2 : k < (0 + ys.length) * 1 := by have := HY3.out; omega
  have hkyi : (k : Int) < ys.length := by have := HY3.out; omega
  have hk0 : (0 : Int) ≤ (k : Int) := by omega
  have HQ : Hid (([] ++ ys.map (Value.int .i64))[k]? = some (.int .i64 u)) := Lib.hid (by rw [List.nil_append, List.getElem?_map, hu]; rfl)
  clear hu hcu
  by_cases hu0 : 0 < u
  · obtain ⟨v, hv⟩ : ∃ v, u - 1 = v := ⟨_, rfl⟩
    have huw : IntKind.i64.wrap (u - 1) = v := by rw [← hv]; exact wrap_small (by omega)
    have HV := Lib.hid hv
    clear hv
    go_wp2_with (at_builtin; rw [hk]; refine wpList_appI elI rfl (.tmp 44) (.tmp 45) rfl _ HW0.out (some ⟨bq, oq, none⟩) ys.length d1 ys rfl rfl rfl HYA.out hs9 hyl2 ?_; intro A2 c2 w4 hown hb2 _; obtain ⟨g, cap, he, hg, hgl⟩ := hown.form hpos; simp only [Nat.zero_add, Value.slice.injEq, true_and] at he; obtain ⟨rfl, rfl⟩ := he; have HOW := Lib.hid hown; have HB4 := Lib.hid (HBA.out.trans hb2); have hd0 := (hown.cellAt k hkn2).trans HQ.out; have hf0 := hown.frozenAt k; clear hown hb2)
    have hO := HOW.out
    rw [Nat.zero_add, List.nil_append] at hO
    have hs4 := HB4.out.size
    obtain ⟨w5, hw5⟩ : ∃ W, W = w4.setCell ⟨g, k, none⟩ (.int .i64 v) := ⟨_, rfl⟩
    rw [← hw5]
    have hb5 : Below w3.heap.size w4 w5 := by rw [hw5]; exact (Below.refl _ _).setCell (p := ⟨g, k, none⟩) hg _
    have hs5 := hb5.size
    have hO5 := own_set hO k v
    rw [← hw5] at hO5
    obtain ⟨A6, c6, he, -, hI⟩ := Ints.of_own hO5
    simp only [Value.slice.injEq] at he
    obtain ⟨rfl, -, rfl⟩ := he
    have HBn := Lib.hid (HB4.out.trans hb5)
    have h7 := indexFirst_any A1 c1 _ _ us (some ⟨g, 0, none⟩) c2 _ _ (ys.set k v) w5 (HX.out.step HBn.out) (by omega) HS.out (Nat.le_refl _) hI (by rw [List.length_set]; omega) (Nat.le_refl _)
    rw [List.length_set] at h7
    have H7 := Lib.hid h7
    obtain ⟨G, hG⟩ : ∃ G, firstI (us.map RowV.xs) (ys.set k v) = G := ⟨_, rfl⟩
    have hGb : 0 ≤ G ∧ G ≤ F := by
      rw [← hG, ← HF.out]
      have hl := less_vec H32i.out.2 HU.out hu0
      rw [HV.out] at hl
      exact firstI_less (by rw [HF.out]; omega) hl.1 hl.2
    have HG := Lib.hid hG
    clear hO hw5 hb5 hO5 hI h7 hG hd0 hf0 huw hu0 hub hgl hg hk0 hkyi hkn2 hpos hyl2 hs9 hs5 hs4
    refine H7.out.mono ?_; rintro e w6 ⟨rfl, hb⟩
    rw [HG.out]
    have HB6 := Lib.hid (Below.step HBn.out hb)
    clear hb
    obtain ⟨hG0, hG1⟩ := hGb
    go_wp2_with fail
    go_ret
    exact ⟨by simp, Below.step HB.out HB6.out⟩
  · have hu0' : ¬ (0 < u) := hu0
    go_wp2_with (at_builtin; rw [hk]; refine wpList_appI elI rfl (.tmp 44) (.tmp 45) rfl _ HW0.out (some ⟨bq, oq, none⟩) ys.length d1 ys rfl rfl rfl HYA.out hs9 hyl2 ?_; intro A2 c2 w4 hown hb2 _; obtain ⟨g, cap, he, hg, hgl⟩ := hown.form hpos; simp only [Nat.zero_add, Value.slice.injEq, true_and] at he; obtain ⟨rfl, rfl⟩ := he; have HOW := Lib.hid hown; have HB4 := Lib.hid (HBA.out.trans hb2); have hd0 := (hown.cellAt k hkn2).trans HQ.out; have hf0 := hown.frozenAt k; clear hown hb2)
    have hO := HOW.out
    rw [Nat.zero_add, List.nil_append] at hO
    have hs4 := HB4.out.size
    obtain ⟨w5, hw5⟩ : ∃ W, W = w4 := ⟨_, rfl⟩
    rw [← hw5]
    have hb5 : Below w3.heap.size w4 w5 := by rw [hw5]; exact Below.refl _ _
    have hs5 := hb5.size
    have hO5 := hO
    rw [← hw5] at hO5
    obtain ⟨A6, c6, he, -, hI⟩ := Ints.of_own hO5
    simp only [Value.slice.injEq] at he
    obtain ⟨rfl, -, rfl⟩ := he
    have HBn := Lib.hid (HB4.out.trans hb5)
    have h7 := indexFirst_any A1 c1 _ _ us (some ⟨g, 0, none⟩) c2 _ _ (ys) w5 (HX.out.step HBn.out) (by omega) HS.out (Nat.le_refl _) hI (by rw [show ys.length = ys.length from rfl]; omega) (Nat.le_refl _)
    rw [show ys.length = ys.length from rfl] at h7
    have H7 := Lib.hid h7
    obtain ⟨G, hG⟩ : ∃ G, firstI (us.map RowV.xs) (ys) = G := ⟨_, rfl⟩
    have hGb : 0 ≤ G ∧ G ≤ F := by
      rw [← hG, ← HF.out]
      rw [HF.out]; omega
    have HG := Lib.hid hG
    clear hO hw5 hb5 hO5 hI h7 hG hd0 hf0 hgl hg hk0 hkyi hkn2 hpos hyl2 hs9 hs5 hs4
    refine H7.out.mono ?_; rintro e w6 ⟨rfl, hb⟩
    rw [HG.out]
    have HB6 := Lib.hid (Below.step HBn.out hb)
    clear hb
    obtain ⟨hG0, hG1⟩ := hGb
    go_wp2_with fail
    go_ret
    exact ⟨by simp, Below.step HB.out HB6.out⟩
end Go.Proofs.Ytpjipofkpikipaa
