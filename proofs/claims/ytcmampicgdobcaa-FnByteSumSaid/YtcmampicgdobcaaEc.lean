/- ClusterArrive. No condition but on sizes. -/
import Derived.Test.YtcmampicgdobcaaEb
namespace Go.Proofs.Ytcmampicgdobcaa
open Go.RowKit
set_option linter.unusedSimpArgs false in
set_option maxHeartbeats 2000000 in
theorem clusterArriveS_any (A B N : Option Addr) (c d e0 M l1 h1 lo hi l2 h2 : Nat) (room need : List Int) (id : Int) (gr : Bool) (us : List UniV) (w : World) (hA : Ints w l1 h1 A c room) (hU : UniT w lo hi B d us) (hC : CluOk M room us) (hM : M ≤ 100)
    (hN : Ints w l2 h2 N e0 need) (hn : GoodN need) (g1 : h1 ≤ w.heap.size) (g2 : hi ≤ w.heap.size) (g3 : h2 ≤ w.heap.size) :
    Calls Try.prog 43 #[.agg #[.slice A room.length c, .slice B us.length d], .agg #[.int .i64 id, .slice N need.length e0], .bool gr] w (RetM w.heap.size (M + 1) w) := by
  obtain ⟨w0, hw0⟩ : ∃ W, W = w.alloc (.cells #[.slice A room.length c, .slice B us.length d] 28) := ⟨_, rfl⟩
  obtain ⟨w1, hw1⟩ : ∃ W, W = w0.alloc (.cells #[.int .i64 id, .slice N need.length e0] 62) := ⟨_, rfl⟩
  obtain ⟨wz, hwz⟩ : ∃ W, W = w1.alloc (.cells #[.slice none 0 0, .slice none 0 0] 28) := ⟨_, rfl⟩
  have HW0 := Lib.hid hw0
  have HW1 := Lib.hid hw1
  have HWZ := Lib.hid hwz
  have hb0 : Below w.heap.size w w0 := by rw [hw0]; exact alloc_belowC w _
  have hb1 : Below w0.heap.size w0 w1 := by rw [hw1]; exact alloc_belowC w0 _
  have hbz : Below w1.heap.size w1 wz := by rw [hwz]; exact alloc_belowC w1 _
  have hs0 : w0.heap.size = w.heap.size + 1 := by rw [hw0]; simp
  have hs1 : w1.heap.size = w.heap.size + 1 + 1 := by rw [hw1]; simp [hs0]
  have hsz : w1.heap.size + 1 = wz.heap.size := by rw [hwz]; simp
  have hX0 : Blk w0 w.heap.size 28 [.slice A room.length c, .slice B us.length d] := by rw [hw0]; exact Blk.new w _ [.slice A room.length c, .slice B us.length d]
  have HX := Lib.hid ((hX0.step hb1).step hbz)
  have hY0 : Blk w1 w0.heap.size 62 [.int .i64 id, .slice N need.length e0] := by rw [hw1]; exact Blk.new w0 _ [.int .i64 id, .slice N need.length e0]
  rw [hs0] at hY0
  have HY := Lib.hid (hY0.step hbz)
  have hZ0 : Blk wz w1.heap.size 28 [.slice none 0 0, .slice none 0 0] := by rw [hwz]; exact Blk.new w1 _ [.slice none 0 0, .slice none 0 0]
  rw [hs1] at hZ0
  have HZ := Lib.hid hZ0
  have hb01 : Below w.heap.size w wz := (hb0.trans (hb1.mono (by omega))).trans (hbz.mono (by omega))
  have hsw : w.heap.size + 3 ≤ wz.heap.size := by omega
  have HA := Lib.hid (hA.below hb01 g1)
  have HU := Lib.hid (hU.below hb01 g2)
  have HN := Lib.hid (hN.below hb01 g3)
  have HB := Lib.hid hb01
  have HC := Lib.hid hC
  have HGN := Lib.hid hn
  have hx0 := HX.out.cell (i := 0) rfl
  have hx1 := HX.out.cell (i := 1) rfl
  clear hw0 hw1 hwz hb0 hb1 hbz hs0 hs1 hsz hX0 hY0 hZ0 hb01 hA hU hN hn hC
  have hroom : room.length ≤ 3 := HC.out.roomle
  go_enter Try.func43, Try.ntmps43
  go_wp2_with fail
  rw [← HW0.out, ← HW1.out, ← HWZ.out]
  refine (clusterValidS_some A B c d l1 h1 lo hi room us wz HA.out (by omega) HU.out (by have := HC.out.few; omega) (by have := HC.out.many; omega) HC.out.needB (by omega) (by omega)).mono ?_
  rintro e wa ⟨v, rfl, hba⟩
  have HBA := Lib.hid hba
  have hsa := hba.size
  clear hba
  cases v
  · have z0 := (HZ.out.below HBA.out (by omega)).cell (i := 0) rfl
    have z1 := (HZ.out.below HBA.out (by omega)).cell (i := 1) rfl
    have zf0 := (HZ.out.below HBA.out (by omega)).frozen 0
    have zf1 := (HZ.out.below HBA.out (by omega)).frozen 1
    go_wp2_with fail
    obtain ⟨wf, hwf, r0, r1, hcl, hbf⟩ := clu_ret (w := w) (base := w.heap.size) (N := M + 1) (HZ.out.below HBA.out (by omega)) rfl (Clu.zero wa _ _) (HB.out.trans (HBA.out.mono (by omega))) (by omega)
    rw [← hwf]
    refine bodyPost_ret (v := .tuple #[.agg #[.slice none 0 0, .slice none 0 0], .int .i64 1]) (by simp [results, Try.results43, go_sem, r0, r1]) rfl ?_
    exact ⟨_, 1, rfl, hcl, hbf⟩
  have xa0 := cell_belowT HBA.out (show w.heap.size < wz.heap.size by omega) hx0
  have xa1 := cell_belowT HBA.out (show w.heap.size < wz.heap.size by omega) hx1
  go_wp2_with fail
  refine (l21Copy_any A B c d l1 h1 lo hi room us wa (HA.out.below HBA.out (by omega)) (by omega) (HU.out.below HBA.out (by omega)) (by have := HC.out.few; omega) (fun u hu => by have := HC.out.each u hu; omega) HC.out.need (by omega) (by omega)).mono ?_
  rintro e wb ⟨A2, c2, q, d2, vs, rfl, hI2, hO2, hpv, hbb⟩
  have HC2 := Lib.hid (HC.out.same hpv)
  have hsb := hbb.size
  have HI2 := Lib.hid hI2
  have HO2 := Lib.hid hO2
  have HBB := Lib.hid (HBA.out.trans (hbb.mono hsa))
  clear hI2 hO2 hpv hbb xa0 xa1
  obtain ⟨wc, hwc⟩ : ∃ W, W = wb.alloc (.cells #[.slice A2 room.length c2, .slice (some ⟨q, 0, none⟩) vs.length d2] 28) := ⟨_, rfl⟩
  have hbc : Below wb.heap.size wb wc := by rw [hwc]; exact alloc_belowC wb _
  have HWC := Lib.hid hwc
  have HO : Hid (Blk wc wb.heap.size 28 [.slice A2 room.length c2, .slice (some ⟨q, 0, none⟩) vs.length d2]) := Lib.hid (by rw [hwc]; exact Blk.new wb _ [.slice A2 room.length c2, .slice (some ⟨q, 0, none⟩) vs.length d2])
  have HBC := Lib.hid (HBB.out.trans (hbc.mono (by omega)))
  have hsc : wb.heap.size + 1 ≤ wc.heap.size := by rw [hwc]; simp
  have HI3 := Lib.hid ((HI2.out.step hbc).mono (show wz.heap.size ≤ wa.heap.size by omega) (Nat.le_refl _))
  have HO3 := Lib.hid ((HO2.out.below hbc).mono (show wz.heap.size ≤ wa.heap.size by omega))
  have HBD := HBB
  clear hwc hbc HI2 HO2 HBB
  have xb0 := cell_belowT HBD.out (show w.heap.size < wz.heap.size by omega) hx0
  have xb1 := cell_belowT HBD.out (show w.heap.size < wz.heap.size by omega) hx1
  have HYB := Lib.hid (HY.out.below HBD.out (show w.heap.size + 1 < wz.heap.size by omega))
  have yb0 := HYB.out.cell (i := 0) rfl
  have yb1 := HYB.out.cell (i := 1) rfl
  have n1 : w.heap.size ≠ wb.heap.size := by omega
  have n2 : w.heap.size + 1 ≠ wb.heap.size := by omega
  have n3 : w.heap.size < wb.heap.size := by omega
  have n4 : w.heap.size + 1 < wb.heap.size := by omega
  go_wp2_with fail
  rw [← HWC.out]
  obtain ⟨wd, hwd⟩ : ∃ W, W = wc.alloc (.cells #[.int .i64 id, .slice N need.length e0] 62) := ⟨_, rfl⟩
  have hbd : Below wc.heap.size wc wd := by rw [hwd]; exact alloc_belowC wc _
  have hsd : wc.heap.size ≤ wd.heap.size := hbd.size
  have hsc2 : wc.heap.size = wb.heap.size + 1 := by rw [HWC.out]; simp
  have hTd : Tasks wd 0 wd.heap.size (some ⟨wc.heap.size, 0, none⟩) 1 [⟨id, N, e0, need⟩] := by
    have h1 : wd.ownsRow 0 62 2 (.slice (some ⟨wc.heap.size, 0, none⟩) 1 1) 1 [.int .i64 id, .slice N need.length e0] := by
      rw [hwd]; exact ownsRow_base (World.ownsRow_lit wc #[.int .i64 id, .slice N need.length e0] 1 (Nat.le_refl _) (by simp [maxLen]) rfl) (Nat.zero_le _)
    obtain ⟨A9, c9, he, hT⟩ := Tasks.of_own (ts := [⟨id, N, e0, need⟩]) h1 (fun t ht => by
      simp only [List.mem_singleton] at ht; subst ht
      exact (((HN.out.below HBC.out (by omega)).below hbd (by omega)).mono (Nat.zero_le _) (by omega)))
    simp only [Value.slice.injEq, List.length_singleton, true_and] at he
    obtain ⟨rfl, rfl⟩ := he
    exact hT
  rw [hsc2] at hTd
  have hIw : Ints wd l1 h1 A c room := (HA.out.below HBC.out (by omega)).below hbd (by omega)
  rw [← hwd]
  refine (tasksValidS_any A c l1 h1 room (some ⟨wb.heap.size + 1, 0, none⟩) 1 0 wd.heap.size [⟨id, N, e0, need⟩] wd hIw (by omega) hTd (by simp) (fun t ht => by simp only [List.mem_singleton] at ht; subst ht; show need.length ≤ _; have := HGN.out.1; omega) (by omega) (Nat.le_refl _)).mono ?_
  have HBW := Lib.hid hbd
  clear hwd hbd hTd hIw
  rintro e we ⟨rfl, hbe⟩
  obtain ⟨v, hv⟩ : ∃ v, tasksB room (List.map pv [⟨id, N, e0, need⟩]) = v := ⟨_, rfl⟩
  rw [hv]
  have HCE := Lib.hid (HBW.out.trans (hbe.mono hsd))
  have HBE := Lib.hid (HBC.out.trans (HCE.out.mono HBC.out.size))
  have hse := HBE.out.size
  have hsce := HCE.out.size
  have HOE := Lib.hid (HO.out.below HCE.out hsc)
  have HCL : Hid (∀ W : World, Below wc.heap.size wc W → Clu W w.heap.size (M + 1) (.agg #[.slice A2 room.length c2, .slice (some ⟨q, 0, none⟩) vs.length d2])) := Lib.hid (fun W hW => ⟨A2, c2, _, d2, room, vs, rfl, (HI3.out.step hW).mono (by omega) (Nat.le_refl _), (HO3.out.below hW).mono (by omega), HC2.out.mono (by omega)⟩)
  clear hv hbe HBW xb0 xb1 yb0 yb1
  cases v
  · have z0 := (HZ.out.below HBE.out (by omega)).cell (i := 0) rfl
    have z1 := (HZ.out.below HBE.out (by omega)).cell (i := 1) rfl
    have zf0 := (HZ.out.below HBE.out (by omega)).frozen 0
    have zf1 := (HZ.out.below HBE.out (by omega)).frozen 1
    have o0 := HOE.out.cell (i := 0) rfl
    have o1 := HOE.out.cell (i := 1) rfl
    go_wp2_with fail
    obtain ⟨wf, hwf, r0, r1, hcl, hbf⟩ := clu_ret (w := w) (base := w.heap.size) (N := M + 1) (HZ.out.below HBE.out (by omega)) rfl (HCL.out we HCE.out) (HB.out.trans (HBE.out.mono (by omega))) (by omega)
    rw [← hwf]
    refine bodyPost_ret (v := .tuple #[.agg #[.slice A2 room.length c2, .slice (some ⟨q, 0, none⟩) vs.length d2], .int .i64 1]) (by simp [results, Try.results43, go_sem, r0, r1]) rfl ?_
    exact ⟨_, 1, rfl, hcl, hbf⟩
  have xe0 := cell_belowT HBE.out (show w.heap.size < wz.heap.size by omega) hx0
  have xe1 := cell_belowT HBE.out (show w.heap.size < wz.heap.size by omega) hx1
  have HYE := Lib.hid (HY.out.below HBE.out (show w.heap.size + 1 < wz.heap.size by omega))
  have ye0 := HYE.out.cell (i := 0) rfl
  have ye1 := HYE.out.cell (i := 1) rfl
  have HK := Lib.hid (l21Bins_any A B room.length c d lo hi us we.drew ((HU.out.below HBE.out (by omega)).below (Below.refl we.heap.size we).drew (by omega)) (by have := HC.out.few; omega) (by show hi ≤ we.heap.size; omega))
  go_wp2_with fail
  refine wp_region_U (fun w' => w'.cell? ⟨w.heap.size, 0, none⟩ = some (.slice A room.length c) ∧ w'.cell? ⟨w.heap.size, 1, none⟩ = some (.slice B us.length d) ∧ w'.cell? ⟨w.heap.size + 1, 0, none⟩ = some (.int .i64 id)) 5 (by kernel_rfl) ⟨xe0, xe1, ye0⟩ (fun hHeld => ?_)
  refine wpAnyU.take (i := 0) [1, 4, 5] (v := ?_) rfl (by kernel_rfl) (by kernel_rfl) (by kernel_rfl) (by kernel_rfl) (fun _ _ _ h => h) (Or.inl ⟨by rfl, ?_⟩) (by assumption) ?_
  rotate_left
  · (intro w hSw; (try dsimp only at hSw); go_simp <;> (with_reducible rfl))
  try simp only [Act.put, List.setIfInBounds_toArray, List.set_cons_zero, List.set_cons_succ]
  refine wpAnyU.take (i := 2) [3, 4, 5] (v := ?_) rfl (by kernel_rfl) (by kernel_rfl) (by kernel_rfl) (by kernel_rfl) (fun _ _ _ h => h) (Or.inl ⟨by rfl, ?_⟩) (by assumption) ?_
  rotate_left
  · (intro w hSw; (try dsimp only at hSw); go_simp <;> (with_reducible rfl))
  try simp only [Act.put, List.setIfInBounds_toArray, List.set_cons_zero, List.set_cons_succ]
  refine wpAnyU.take (i := 3) [4, 5] (v := ?_) rfl (by kernel_rfl) (by kernel_rfl) (by kernel_rfl) (by kernel_rfl) (fun _ _ _ h => h) (Or.inl ⟨by rfl, ?_⟩) (by assumption) ?_
  rotate_left
  · (intro w hSw; (try dsimp only at hSw); go_simp <;> (with_reducible rfl))
  try simp only [Act.put, List.setIfInBounds_toArray, List.set_cons_zero, List.set_cons_succ]
  refine wpAnyU.one (i := 1) (by kernel_rfl) rfl (fun K hK => ?_)
  go_simp
  go_at_call 52
  refine HK.out.mono ?_
  rintro e wg ⟨q5, d5, rfl, hB5, hb5⟩
  go_wp2_with fail
  have hb5' : Below we.heap.size we wg := Below.undrew hb5
  have hsg : we.heap.size ≤ wg.heap.size := hb5'.size
  have h9 := l2Where_any (some ⟨q5, 0, none⟩) d5 0 wg.heap.size (us.map ubin) id wg hB5 (by rw [List.length_map]; have := HC.out.few; omega) (fun b hb => by
    obtain ⟨u, hu, rfl⟩ := List.mem_map.1 hb
    have := HC.out.each u hu
    show u.ts.length ≤ _
    omega)
  rw [List.length_map] at h9
  have H9 := Lib.hid h9
  have HB5 := Lib.hid hb5'
  have xg0 := cell_belowT hb5' (show w.heap.size < we.heap.size by omega) xe0
  have xg1 := cell_belowT hb5' (show w.heap.size < we.heap.size by omega) xe1
  have yg0 := cell_belowT hb5' (show w.heap.size + 1 < we.heap.size by omega) ye0
  clear hB5 hb5 hb5' h9
  refine hK.out _ _ (fun _ => ?_) (fun hHeld => ?_)
  rotate_left
  replace hHeld := hHeld (by kernel_rfl)
  clear hK K
  try simp only [Act.put, List.setIfInBounds_toArray, List.set_cons_zero, List.set_cons_succ]
  rotate_right
  · exact ⟨xg0, xg1, yg0⟩
  refine wpAnyU.one (i := 4) (by kernel_rfl) rfl (fun K hK => ?_)
  go_simp
  go_at_call 54
  refine H9.out.mono ?_
  rintro e wh ⟨k, rfl, hk0, hk1, n, hwh⟩
  have hbh : Below we.heap.size we wh := by rw [hwh]; exact Below.drewN HB5.out n
  have HCH := Lib.hid (HCE.out.trans (hbh.mono hsce))
  have HBH := Lib.hid (HBE.out.trans (hbh.mono hse))
  have hsh := HBH.out.size
  have HOH := Lib.hid (HO.out.below HCH.out hsc)
  have xh0 := cell_belowT HBH.out (show w.heap.size < wz.heap.size by omega) hx0
  have xh1 := cell_belowT HBH.out (show w.heap.size < wz.heap.size by omega) hx1
  have HYH := Lib.hid (HY.out.below HBH.out (show w.heap.size + 1 < wz.heap.size by omega))
  have yh0 := HYH.out.cell (i := 0) rfl
  have yh1 := HYH.out.cell (i := 1) rfl
  clear hwh hbh xe0 xe1 ye0 ye1
  go_wp2_with fail
  refine hK.out _ _ (fun _ => ?_) (fun hHeld => ?_)
  rotate_left
  replace hHeld := hHeld (by kernel_rfl)
  clear hK K
  try simp only [Act.put, List.setIfInBounds_toArray, List.set_cons_zero, List.set_cons_succ]
  rotate_right
  · exact ⟨xh0, xh1, yh0⟩
  refine wpAnyU.one (i := 5) (by kernel_rfl) rfl (fun K hK => ?_)
  go_simp
  refine hK.out _ _ (fun h => absurd (h.symm.trans (by kernel_rfl)) Bool.false_ne_true) (fun _ => ?_)
  clear hK K
  try simp only [Act.put, List.setIfInBounds_toArray, List.set_cons_zero, List.set_cons_succ]
  refine wpAnyU.done (by kernel_rfl) ?_ _
  by_cases hkk : 0 ≤ k
  · have z0 := (HZ.out.below HBH.out (by omega)).cell (i := 0) rfl
    have z1 := (HZ.out.below HBH.out (by omega)).cell (i := 1) rfl
    have zf0 := (HZ.out.below HBH.out (by omega)).frozen 0
    have zf1 := (HZ.out.below HBH.out (by omega)).frozen 1
    have o0 := HOH.out.cell (i := 0) rfl
    have o1 := HOH.out.cell (i := 1) rfl
    go_wp2_with fail
    obtain ⟨wf, hwf, r0, r1, hcl, hbf⟩ := clu_ret (w := w) (base := w.heap.size) (N := M + 1) (HZ.out.below HBH.out (by omega)) rfl (HCL.out wh HCH.out) (HB.out.trans (HBH.out.mono (by omega))) (by omega)
    rw [← hwf]
    refine bodyPost_ret (v := .tuple #[.agg #[.slice A2 room.length c2, .slice (some ⟨q, 0, none⟩) vs.length d2], .int .i64 2]) (by simp [results, Try.results43, go_sem, r0, r1]) rfl ?_
    exact ⟨_, 2, rfl, hcl, hbf⟩
  have hkd : decide (0 ≤ k) = false := by simpa using hkk
  have o0 := HOH.out.cell (i := 0) rfl
  have o1 := HOH.out.cell (i := 1) rfl
  have hcsz := HCH.out.size
  go_wp2_with fail
  refine (l21Arrive_any A2 (some ⟨q, 0, none⟩) N c2 d2 e0 wz.heap.size M l2 h2 room need id gr vs wh (HI3.out.step HCH.out) (HO3.out.below HCH.out) HC2.out hM (HN.out.below HBH.out (by omega)) HGN.out (by omega) (by omega)).mono ?_
  rintro e wi ⟨v, code, rfl, ⟨A7, c7, B7, d7, room7, us7, rfl, hI7, hO7, hC7⟩, hbi⟩
  have HBI := Lib.hid (HBH.out.trans hbi)
  have HCI : Hid (Clu wi w.heap.size (M + 1) (.agg #[.slice A7 room7.length c7, .slice B7 us7.length d7])) := Lib.hid ⟨A7, c7, B7, d7, room7, us7, rfl, hI7.mono (by omega) (Nat.le_refl _), hO7.mono (by omega), hC7⟩
  clear hI7 hO7 hC7 hbi
  have z0 := (HZ.out.below HBI.out (by omega)).cell (i := 0) rfl
  have z1 := (HZ.out.below HBI.out (by omega)).cell (i := 1) rfl
  have zf0 := (HZ.out.below HBI.out (by omega)).frozen 0
  have zf1 := (HZ.out.below HBI.out (by omega)).frozen 1
  go_wp2_with fail
  obtain ⟨wf, hwf, r0, r1, hcl, hbf⟩ := clu_ret (w := w) (base := w.heap.size) (N := M + 1) (HZ.out.below HBI.out (by omega)) rfl HCI.out (HB.out.trans (HBI.out.mono (by omega))) (by omega)
  rw [← hwf]
  refine bodyPost_ret (v := .tuple #[.agg #[.slice A7 room7.length c7, .slice B7 us7.length d7], .int .i64 code]) (by simp [results, Try.results43, go_sem, r0, r1]) rfl ?_
  exact ⟨_, code, rfl, hcl, hbf⟩
end Go.Proofs.Ytcmampicgdobcaa
