/- The walk of one statement: by the contracts of what it calls it returns true and changes nothing that was there. No condition. -/
import Derived.Test.YtojbljaleconpaaDp
import Derived.Test.YtojbljaleconpaaPn
namespace Go.Proofs.Ytojbljaleconpaa
open Go.RowKit
set_option maxHeartbeats 1000000 in
theorem FnPairsPart_walk (A : Option Addr) (n c : Nat) (B : Option Addr) (m d : Nat) (w : World) (hA : BytesR w w.heap.size A n) (hc : n ≤ c) (hm : c ≤ maxLen) (_hB : BytesR w w.heap.size B m) (_hd : m ≤ d) (_hm2 : d ≤ maxLen) :
    Calls Try.prog 9 #[.slice A n c, .slice B m d] w fun e w' => e = .returned (.bool true) ∧ Below w.heap.size w w' := by
  have HA := Lib.hid hA; clear hA
  by_cases hn : 1048576 < n
  · go_enter Try.func9, Try.ntmps9
    go_wp2
    go_ret
    exact ⟨by simp, Below.refl _ _⟩
  have hnd : ¬ ((1048576 : Int) < (n : Int)) := by omega
  by_cases hmm : 1048576 < m
  · go_enter Try.func9, Try.ntmps9
    go_wp2
    go_ret
    exact ⟨by simp, Below.refl _ _⟩
  have hmd : ¬ ((1048576 : Int) < (m : Int)) := by omega
  go_enter Try.func9, Try.ntmps9
  go_wp2_with fail
  refine (DrawPairsValid_any A n c w HA.out hc hm).mono ?_; rintro e w1 ⟨B1, d1, ts, rfl, hT, hl, hb⟩
  have HT := Lib.hid hT; clear hT
  have HB := Lib.hid hb; clear hb
  have hs1 := HB.out.size
  go_wp2_with fail
  refine (pairsValid_any B1 d1 _ _ ts w1 HT.out (by omega) (Nat.le_refl _)).mono ?_; rintro e w2 ⟨rfl, hb⟩
  have hs2 := hb.size
  replace HT : Hid (Pairs w2 w.heap.size w1.heap.size B1 d1 ts) := Lib.hid (Cells.below HT.out hb (Nat.le_refl _))
  first | replace HB := Lib.hid (Below.trans HB.out (Below.mono hb (by omega))) | replace HB := Lib.hid (Below.trans HB.out (Only.below hb (by omega) (by omega)))
  clear hb
  go_wp2_with fail
  refine (pairsValidS_any B1 d1 _ _ ts w2 HT.out (by omega) (by omega)).mono ?_; rintro e w3 ⟨rfl, hb⟩
  have hs3 := hb.size
  replace HT : Hid (Pairs w3 w.heap.size w1.heap.size B1 d1 ts) := Lib.hid (Cells.below HT.out hb (by omega))
  first | replace HB := Lib.hid (Below.trans HB.out (Below.mono hb (by omega))) | replace HB := Lib.hid (Below.trans HB.out (Only.below hb (by omega) (by omega)))
  clear hb
  cases hv : pairsB ts
  · go_wp2_with fail
    go_ret
    exact ⟨by simp, HB.out⟩
  have HV := Lib.hid hv; clear hv
  by_cases hl0 : ts.length = 0
  · have hl0' : (ts.length : Int) = 0 := by omega
    go_wp2_with fail
    go_ret
    exact ⟨by simp, HB.out⟩
  have hl0' : ((ts.length : Int) == 0) = false := by simp only [beq_eq_false_iff_ne, ne_eq]; omega
  obtain ⟨k, hk, hkl⟩ : ∃ k : Nat, (m : Int).tmod (ts.length : Int) = k ∧ k < ts.length := ⟨m % ts.length, by rw [Int.ofNat_tmod], Nat.mod_lt _ (by omega)⟩
  have hkl' : (k : Int) < ts.length := by omega
  have hk1 : IntKind.i64.wrap ((k : Int) + 1) = (k : Int) + 1 := wrap_small (by omega)
  have hdl1 : ts.length ≤ d1 := HT.out.1
  have hkd : k ≤ d1 := by omega
  have hkd1 : k + 1 ≤ d1 := by omega
  have hkdi : (k : Int) + 1 ≤ d1 := by omega
  have hk0 : (0 : Int) ≤ (k : Int) + 1 := by omega
  have hk0' : (0 : Int) ≤ (k : Int) := by omega
  have hkt : (k : Int) + 1 ≤ ts.length := by omega
  have hkt' : (k : Int) ≤ ts.length := by omega
  obtain ⟨wa, hwa⟩ : ∃ W, W = (w3.alloc (.cells #[] 74)).drew := ⟨_, rfl⟩
  have hal : Below w3.heap.size w3 wa := by rw [hwa]; exact ((Below.refl _ _).alloc (Nat.le_refl _) _).drew
  have hsaa := hal.size
  have HT0 := Lib.hid (HT.out.below hal (by omega))
  have HO0 : Hid (wa.ownsRow w3.heap.size 74 2 (.slice (some ⟨w3.heap.size, 0, none⟩) 0 0) 0 []) := Lib.hid (by rw [hwa]; exact ownsRow_heap (ownsRow_empty w3 74 2) rfl)
  have HWa := Lib.hid hwa
  have HBa := Lib.hid hal
  clear hwa hal
  go_wp2_with fail
  go_region_held3 (fun _ => True) (trivial)
    (first
      | (rw [← HWa.out]; refine step_appC elPr rfl (.tmp 45) (.tmp 48) rfl wa HO0.out B1 (k) d1 (prow (ts.take (k))) rfl rfl (Pairs.cut HT0.out (by omega)) (prow_one _) (by omega) (by simp only [maxLen]; omega) (by omega) ?_; intro A2 c2 w4 hown2 hb2 hg2; have HW2 := Lib.hid hown2; have HT1 : Hid (Pairs w4 w.heap.size w1.heap.size B1 d1 ts) := Lib.hid (Cells.below HT0.out hb2 (by omega)); have hs4a := hb2.size; have HB2 := Lib.hid hb2; clear hown2 hb2 hg2)
      | (refine step_appC elPr rfl (.tmp 49) (.tmp 53) rfl w4 HW2.out _ (ts.length - (k + 1)) (d1 - (k + 1)) (prow (ts.drop (k + 1))) rfl rfl (Pairs.rest HT1.out (by omega)) (prow_one _) (by omega) (by simp only [maxLen]; omega) (by omega) ?_; intro A3 c3 w5 hown3 hb3 hg3; have HW3 := Lib.hid hown3; have HB3 := Lib.hid hb3; have hs5a := hb3.size; clear hown3 hb3 hg3))
  clear HO0
  generalize (if d1 = k + 1 then B1 else Option.map (fun x => x.add ((k + 1) * 2)) B1) = B2a
  have hbB : Below w3.heap.size w3 w5 := HBa.out.trans (HB2.out.trans HB3.out)
  have hel : 0 + (k) + (ts.length - (k + 1)) = (ts.take (k) ++ ts.drop (k + 1)).length := by simp only [List.length_append, List.length_take, List.length_drop]; omega
  have hT9 := Pairs.two HW3.out hel
  obtain ⟨xs, hxs⟩ : ∃ xs, xs = ts.take (k) ++ ts.drop (k + 1) := ⟨_, rfl⟩
  rw [← hxs] at hel hT9
  have hlx : k + (ts.length - (k + 1)) = xs.length := by omega
  have hlx' : xs.length ≤ ts.length + 1 := by omega
  rw [hlx]
  have HXS := Lib.hid hxs
  have HX := Lib.hid hT9
  have HBX := Lib.hid hbB
  replace HT : Hid (Pairs w5 w.heap.size w1.heap.size B1 d1 ts) := Lib.hid (Cells.below HT.out hbB (by omega))
  replace HB := Lib.hid (HB.out.trans (hbB.mono (by omega)))
  clear hxs hel hT9 hbB HW2 HW3 HT0 HT1 HWa HBa HB2 HB3 hlx
  obtain ⟨wb, hwa⟩ : ∃ W, W = (w5.alloc (.cells #[] 74)).drew := ⟨_, rfl⟩
  have hal : Below w5.heap.size w5 wb := by rw [hwa]; exact ((Below.refl _ _).alloc (Nat.le_refl _) _).drew
  have hsab := hal.size
  have HT0 := Lib.hid (HT.out.below hal (by omega))
  have HO0 : Hid (wb.ownsRow w5.heap.size 74 2 (.slice (some ⟨w5.heap.size, 0, none⟩) 0 0) 0 []) := Lib.hid (by rw [hwa]; exact ownsRow_heap (ownsRow_empty w5 74 2) rfl)
  have HWa := Lib.hid hwa
  have HBa := Lib.hid hal
  clear hwa hal
  go_wp2_with fail
  go_region_held3 (fun _ => True) (trivial)
    (first
      | (rw [← HWa.out]; refine step_appC elPr rfl (.tmp 55) (.tmp 59) rfl wb HO0.out B1 (k + 1) d1 (prow (ts.take (k + 1))) rfl rfl (Pairs.cut HT0.out (by omega)) (prow_one _) (by omega) (by simp only [maxLen]; omega) (by omega) ?_; intro A2 c2 w6 hown2 hb2 hg2; have HW2 := Lib.hid hown2; have HT1 : Hid (Pairs w6 w.heap.size w1.heap.size B1 d1 ts) := Lib.hid (Cells.below HT0.out hb2 (by omega)); have hs4b := hb2.size; have HB2 := Lib.hid hb2; clear hown2 hb2 hg2)
      | (refine step_appC elPr rfl (.tmp 60) (.tmp 63) rfl w6 HW2.out _ (ts.length - (k)) (d1 - (k)) (prow (ts.drop (k))) rfl rfl (Pairs.rest HT1.out (by omega)) (prow_one _) (by omega) (by simp only [maxLen]; omega) (by omega) ?_; intro A4 c4 w7 hown3 hb3 hg3; have HW3 := Lib.hid hown3; have HB3 := Lib.hid hb3; have hs5b := hb3.size; clear hown3 hb3 hg3))
  clear HO0
  generalize (if d1 = k then B1 else Option.map (fun x => x.add (k * 2)) B1) = B2b
  have hbB : Below w5.heap.size w5 w7 := HBa.out.trans (HB2.out.trans HB3.out)
  have hel : 0 + (k + 1) + (ts.length - (k)) = (ts.take (k + 1) ++ ts.drop (k)).length := by simp only [List.length_append, List.length_take, List.length_drop]; omega
  have hT9 := Pairs.two HW3.out hel
  obtain ⟨ys, hxs⟩ : ∃ xs, xs = ts.take (k + 1) ++ ts.drop (k) := ⟨_, rfl⟩
  rw [← hxs] at hel hT9
  have hlx : k + 1 + (ts.length - k) = ys.length := by omega
  have hlx' : ys.length ≤ ts.length + 1 := by omega
  rw [hlx]
  have HYS := Lib.hid hxs
  have HY := Lib.hid hT9
  have HBX := Lib.hid hbB
  replace HT : Hid (Pairs w7 w.heap.size w1.heap.size B1 d1 ts) := Lib.hid (Cells.below HT.out hbB (by omega))
  replace HB := Lib.hid (HB.out.trans (hbB.mono (by omega)))
  clear hxs hel hT9 hbB HW2 HW3 HT0 HT1 HWa HBa HB2 HB3 hlx
  replace HX : Hid (Pairs w7 w3.heap.size w5.heap.size A3 c3 xs) := Lib.hid (Cells.below HX.out HBX.out (Nat.le_refl _))
  have HTX : Hid (pairsB xs = true) := Lib.hid (by rw [HXS.out]; exact pairs_out HV.out hkl)
  have HTY : Hid (pairsB ys = false) := Lib.hid (by rw [HYS.out]; exact pairs_twice hkl)
  go_wp2_with fail
  refine (pairsValid_any A3 c3 _ _ xs w7 HX.out (by omega) (by omega)).mono ?_; rintro e w8 ⟨rfl, hb⟩
  rw [HTX.out]
  have hs8 := hb.size
  replace HY : Hid (Pairs w8 w5.heap.size w7.heap.size A4 c4 ys) := Lib.hid (Cells.below HY.out hb (Nat.le_refl _))
  first | replace HB := Lib.hid (Below.trans HB.out (Below.mono hb (by omega))) | replace HB := Lib.hid (Below.trans HB.out (Only.below hb (by omega) (by omega)))
  clear hb
  go_wp2_with fail
  refine (pairsValid_any A4 c4 _ _ ys w8 HY.out (by omega) (by omega)).mono ?_; rintro e w9 ⟨rfl, hb⟩
  rw [HTY.out]
  first | replace HB := Lib.hid (Below.trans HB.out (Below.mono hb (by omega))) | replace HB := Lib.hid (Below.trans HB.out (Only.below hb (by omega) (by omega)))
  clear hb
  go_wp2_with fail
  go_ret
  exact ⟨by simp, HB.out⟩
end Go.Proofs.Ytojbljaleconpaa
