/- DrawClusterSum. No condition but on sizes. -/
import Derived.Test.YtcmampicgdobcaaEh
import Derived.Test.YtcmampicgdobcaaEi
import Derived.Test.YtcmampicgdobcaaBs
namespace Go.Proofs.Ytcmampicgdobcaa
open Go.RowKit
set_option linter.unusedSimpArgs false in
set_option maxHeartbeats 1000000 in
theorem DrawClusterSum_any (A : Option Addr) (n c : Nat) (w : World) (hA : BytesR w w.heap.size A n) (hc : n ≤ c) (hm : c ≤ maxLen) :
    Calls Try.prog 12 #[.slice A n c] w (GenS w) := by
  have HA := Lib.hid hA; clear hA
  go_enter Try.func12, Try.ntmps12
  go_wp2_with fail
  refine (l6Open_any A n c w HA.out hc hm).mono ?_
  rintro e w1 ⟨g, rfl, hg, hR1, hb1⟩
  have hs1 := hb1.size
  have hgl := hR1.lt
  have HR1 := Lib.hid hR1
  have HB1 := Lib.hid hb1
  clear hR1 hb1
  go_wp2_with fail
  refine (l92Cluster_any g 0 w1 HR1.out (by omega)).mono ?_
  rintro e w2 ⟨A2, c2, B2, d2, room, us, p2, rfl, hI2, hU2, hr2, hn2, hf2, hg2, hR2, hp2, hO2⟩
  have hs2 := hO2.size
  have HI2 := Lib.hid hI2
  have HU2 := Lib.hid hU2
  have HG2 := Lib.hid hg2
  have HR2 := Lib.hid hR2
  have HB2 := Lib.hid (HB1.out.trans (hO2.below hg (by omega)))
  clear hI2 hU2 hg2 hR2 hO2 HR1 HB1
  go_wp2_with fail
  refine (clusterBytesS_any A2 B2 c2 d2 _ _ _ _ room us w2 HI2.out hr2 HU2.out hn2 hf2 HG2.out (Nat.le_refl _) (Nat.le_refl _)).mono ?_
  rintro e w3 ⟨A3, c3, zs, b3, rfl, hO3, hl3, hb3⟩
  have hs3 := hb3.size
  have HO3 := Lib.hid (ownsRow_base hO3 (show w1.heap.size ≤ w2.heap.size by omega))
  have HR3 := Lib.hid (HR2.out.below hb3 (by omega))
  have HB3 := Lib.hid (HB2.out.trans (hb3.mono (by omega)))
  clear hO3 hb3 HI2 HU2 HG2 HR2 HB2
  go_wp2_with fail
  refine (pick_any g p2 20 w3 HR3.out (by omega) (by omega)).mono ?_
  rintro e w4 ⟨v4, rfl, h40, h41, hR4, hO4, hs4⟩
  have HO4 := Lib.hid (ownsRow_only HO3.out hO4 (by omega))
  have HR4 := Lib.hid hR4
  have HB4 := Lib.hid (HB3.out.trans (hO4.below hg (by omega)))
  have hs4' : w3.heap.size ≤ w4.heap.size := by omega
  clear hR4 hO4 HO3 HR3 HB3 hs4
  by_cases hz : v4 = 0
  · subst hz
    have hbe := alloc_belowC w4 (.cells #[] 3)
    have HE := Lib.hid (ownsRow_empty w4 3 1)
    have HBE := Lib.hid hbe
    obtain ⟨A9, c9, he, _, hI4⟩ := Ints.of_own HO4.out
    simp only [Value.slice.injEq, true_and] at he
    obtain ⟨rfl, rfl⟩ := he
    have HI4 := Lib.hid hI4
    have HIE := Lib.hid ((hI4.below hbe (Nat.le_refl _)).r)
    have hse : w4.heap.size ≤ (w4.alloc (.cells #[] 3)).heap.size := by simp
    clear hbe hI4
    go_wp2_with (first
      | (at_builtin; refine wpList_appI elI rfl (.tmp 17) (.tmp 18) rfl _ HE.out A3 zs.length c3 zs rfl rfl rfl HIE.out hse (by omega) ?_; intro A5 c5 w5 hown5 hb5 _; rw [Nat.zero_add] at hown5 ⊢; have HO5 := Lib.hid hown5; have HB5 := Lib.hid (HBE.out.trans hb5); have HI5 := Lib.hid ((HI4.out.below HB5.out (Nat.le_refl _)).r); have hs5 : w4.heap.size ≤ w5.heap.size := HB5.out.size; have hn5 : zs.length + zs.length ≤ 1099511627776 := (by omega); clear hown5 hb5)
      | (at_builtin; refine wpList_appI elI rfl (.tmp 19) (.tmp 20) rfl w5 HO5.out A3 zs.length c3 zs rfl rfl rfl HI5.out hs5 hn5 ?_; intro A6 c6 w6 hown6 hb6 _; have HO6 := Lib.hid hown6; have HB6 := Lib.hid (HB5.out.trans hb6); have hs6 : w4.heap.size ≤ w6.heap.size := HB6.out.size; have hn6 : zs.length + zs.length + 120 ≤ 1000000 := (by omega); clear hown6 hb6; obtain ⟨A7, c7, w7, hr7, hown7, hb7⟩ := run_appZ w6 HO6.out 120 (by omega) hn6 hs6; have HR7 := Lib.hid hr7; have HO7 := Lib.hid hown7; have HB7 := Lib.hid (HB6.out.trans hb7); clear hr7 hown7 hb7)
      | (at_builtin; refine Lib.wpList_append_run w6 rfl _ _ _ _ rfl _ (.int .i64 120) rfl rfl _ _ HR7.out ?_))
    have hO7 := HO7.out
    have hl7 : zs.length + zs.length + 120 = (zs ++ zs ++ List.replicate 120 (0 : Int)).length := by simp; omega
    have hm7 : [] ++ zs.map (Value.int .i64) ++ zs.map (Value.int .i64) ++ (List.replicate 120 (0 : Int)).map (Value.int .i64) = (zs ++ zs ++ List.replicate 120 (0 : Int)).map (Value.int .i64) := by simp
    rw [hl7, hm7] at hO7
    have HO8 := Lib.hid (ownsRow_base hO7 (show w1.heap.size ≤ w4.heap.size by omega))
    have HR8 := Lib.hid (HR4.out.below HB7.out (by omega))
    have HB8 := Lib.hid (HB4.out.trans (HB7.out.mono (by omega)))
    have hs7 := HB7.out.size
    have hl8 : (zs ++ zs ++ List.replicate 120 (0 : Int)).length ≤ 900 := by rw [← hl7]; omega
    rw [hl7]
    refine (l92Damage_any g (p2 + 1) w1.heap.size w.heap.size A7 c7 _ w7 HR8.out (by omega) HO8.out hl8 hgl hg (by omega)).mono ?_
    rintro e w8 ⟨A8, c8, ys, rfl, hI8, hl9, hb8⟩
    have HI8 := Lib.hid (hI8.mono hs1 (Nat.le_refl _))
    have HB9 := Lib.hid (HB8.out.trans hb8)
    clear hI8 hb8
    go_wp2_with fail
    go_ret
    exact ⟨A8, c8, ys, by simp, HI8.out, hl9, HB9.out⟩
  · have hzb : (v4 == 0) = false := by simpa using hz
    go_wp2_with fail
    refine (l92Damage_any g (p2 + 1) w1.heap.size w.heap.size A3 c3 zs w4 HR4.out (by omega) HO4.out (by omega) hgl hg (by omega)).mono ?_
    rintro e w5 ⟨A5, c5, ys, rfl, hI5, hl5, hb5⟩
    have HI5 := Lib.hid (hI5.mono hs1 (Nat.le_refl _))
    have HB5 := Lib.hid (HB4.out.trans hb5)
    clear hI5 hb5
    go_wp2_with fail
    go_ret
    exact ⟨A5, c5, ys, by simp, HI5.out, hl5, HB5.out⟩
end Go.Proofs.Ytcmampicgdobcaa
