/- ClusterDepart. No condition but on sizes. -/
import Derived.Test.YtcmampicgdobcaaEd
namespace Go.Proofs.Ytcmampicgdobcaa
open Go.RowKit
set_option linter.unusedSimpArgs false in
set_option maxHeartbeats 2000000 in
theorem clusterDepartS_any (A B : Option Addr) (c d M l1 h1 lo hi : Nat) (room : List Int) (id : Int) (us : List UniV) (w : World) (hA : Ints w l1 h1 A c room) (hU : UniT w lo hi B d us) (hC : CluOk M room us) (hM : M ≤ 100)
    (g1 : h1 ≤ w.heap.size) (g2 : hi ≤ w.heap.size) :
    Calls Try.prog 41 #[.agg #[.slice A room.length c, .slice B us.length d], .int .i64 id] w (RetM w.heap.size M w) := by
  obtain ⟨w0, hw0⟩ : ∃ W, W = w.alloc (.cells #[.slice A room.length c, .slice B us.length d] 28) := ⟨_, rfl⟩
  obtain ⟨wz, hwz⟩ : ∃ W, W = w0.alloc (.cells #[.slice none 0 0, .slice none 0 0] 28) := ⟨_, rfl⟩
  have HW0 := Lib.hid hw0
  have HWZ := Lib.hid hwz
  have hb0 : Below w.heap.size w w0 := by rw [hw0]; exact alloc_belowC w _
  have hbz : Below w0.heap.size w0 wz := by rw [hwz]; exact alloc_belowC w0 _
  have hs0 : w0.heap.size = w.heap.size + 1 := by rw [hw0]; simp
  have hsz : w0.heap.size + 1 = wz.heap.size := by rw [hwz]; simp
  have hX0 : Blk w0 w.heap.size 28 [.slice A room.length c, .slice B us.length d] := by rw [hw0]; exact Blk.new w _ [.slice A room.length c, .slice B us.length d]
  have HX := Lib.hid (hX0.step hbz)
  have hZ0 : Blk wz w0.heap.size 28 [.slice none 0 0, .slice none 0 0] := by rw [hwz]; exact Blk.new w0 _ [.slice none 0 0, .slice none 0 0]
  rw [hs0] at hZ0
  have HZ := Lib.hid hZ0
  have hb01 : Below w.heap.size w wz := hb0.trans (hbz.mono (by omega))
  have hsw : w.heap.size + 2 ≤ wz.heap.size := by omega
  have HA := Lib.hid (hA.below hb01 g1)
  have HU := Lib.hid (hU.below hb01 g2)
  have HB := Lib.hid hb01
  have HC := Lib.hid hC
  have hx0 := HX.out.cell (i := 0) rfl
  have hx1 := HX.out.cell (i := 1) rfl
  clear hw0 hwz hb0 hbz hs0 hsz hX0 hZ0 hb01 hA hU hC
  have hroom : room.length ≤ 3 := HC.out.roomle
  go_enter Try.func41, Try.ntmps41
  go_wp2_with fail
  rw [← HW0.out, ← HWZ.out]
  refine (clusterValidS_some A B c d l1 h1 lo hi room us wz HA.out (by omega) HU.out (by have := HC.out.few; omega) (by have := HC.out.many; omega) HC.out.needB (by omega) (by omega)).mono ?_
  rintro e wa ⟨v, rfl, hba⟩
  have HBA := Lib.hid hba
  have hsa := hba.size
  clear hba
  cases v
  · have z0 := (HZ.out.below HBA.out (by omega)).cell (i := 0) rfl
    have z1 := (HZ.out.below HBA.out (by omega)).cell (i := 1) rfl
    have zf0 := (HZ.out.below HBA.out (by omega)).frozen 0
    have zf1 := (HZ.out.below HBA.out (by omega)).frozen 1
    go_wp2_with fail
    obtain ⟨wf, hwf, r0, r1, hcl, hbf⟩ := clu_ret (w := w) (base := w.heap.size) (N := M) (HZ.out.below HBA.out (by omega)) rfl (Clu.zero wa _ _) (HB.out.trans (HBA.out.mono (by omega))) (by omega)
    rw [← hwf]
    refine bodyPost_ret (v := .tuple #[.agg #[.slice none 0 0, .slice none 0 0], .int .i64 1]) (by simp [results, Try.results41, go_sem, r0, r1]) rfl ?_
    exact ⟨_, 1, rfl, hcl, hbf⟩
  have xa0 := cell_belowT HBA.out (show w.heap.size < wz.heap.size by omega) hx0
  have xa1 := cell_belowT HBA.out (show w.heap.size < wz.heap.size by omega) hx1
  go_wp2_with fail
  refine (l21Copy_any A B c d l1 h1 lo hi room us wa (HA.out.below HBA.out (by omega)) (by omega) (HU.out.below HBA.out (by omega)) (by have := HC.out.few; omega) (fun u hu => by have := HC.out.each u hu; omega) HC.out.need (by omega) (by omega)).mono ?_
  rintro e wb ⟨A2, c2, q, d2, vs, rfl, hI2, hO2, hpv, hbb⟩
  have HC2 := Lib.hid (HC.out.same hpv)
  have hvl : vs.length = us.length := by have := congrArg List.length hpv; simpa using this
  have HVL := Lib.hid hvl
  have hsb := hbb.size
  have HBB := Lib.hid (HBA.out.trans (hbb.mono hsa))
  obtain ⟨wc, hwc⟩ : ∃ W, W = wb.alloc (.cells #[.slice A2 room.length c2, .slice (some ⟨q, 0, none⟩) vs.length d2] 28) := ⟨_, rfl⟩
  have hbc : Below wb.heap.size wb wc := by rw [hwc]; exact alloc_belowC wb _
  have HWC := Lib.hid hwc
  have HO : Hid (Blk wc wb.heap.size 28 [.slice A2 room.length c2, .slice (some ⟨q, 0, none⟩) vs.length d2]) := Lib.hid (by rw [hwc]; exact Blk.new wb _ [.slice A2 room.length c2, .slice (some ⟨q, 0, none⟩) vs.length d2])
  have HBC := Lib.hid (HBB.out.trans (hbc.mono (by omega)))
  have hsc : wb.heap.size + 1 ≤ wc.heap.size := by rw [hwc]; simp
  have HI3 := Lib.hid ((hI2.step hbc).mono (show wz.heap.size ≤ wa.heap.size by omega) (Nat.le_refl _))
  have HO3 := Lib.hid ((hO2.below hbc).mono (show wz.heap.size ≤ wa.heap.size by omega))
  have HOB : Hid (OwnU wb wz.heap.size (some ⟨q, 0, none⟩) d2 vs) := Lib.hid (hO2.mono (show wz.heap.size ≤ wa.heap.size by omega))
  clear hwc hbc hpv hbb hvl hI2 hO2 xa0 xa1
  have xb0 := cell_belowT HBB.out (show w.heap.size < wz.heap.size by omega) hx0
  have xb1 := cell_belowT HBB.out (show w.heap.size < wz.heap.size by omega) hx1
  have n1 : w.heap.size ≠ wb.heap.size := by omega
  have n3 : w.heap.size < wb.heap.size := by omega
  have HCL : Hid (∀ W : World, Below wc.heap.size wc W → Clu W w.heap.size M (.agg #[.slice A2 room.length c2, .slice (some ⟨q, 0, none⟩) vs.length d2])) := Lib.hid (fun W hW => ⟨A2, c2, _, d2, room, vs, rfl, (HI3.out.step hW).mono (by omega) (Nat.le_refl _), (HO3.out.below hW).mono (by omega), HC2.out⟩)
  go_wp2_with fail
  rw [← HWC.out]
  refine (l21Bins_any A B room.length c d lo hi us wc (HU.out.below HBC.out (by omega)) (by have := HC.out.few; omega) (by omega)).mono ?_
  rintro e we ⟨q5, d5, rfl, hB5, hb5⟩
  have hse := hb5.size
  have h9 := l2Where_any (some ⟨q5, 0, none⟩) d5 0 we.heap.size (us.map ubin) id we hB5 (by rw [List.length_map]; have := HC.out.few; omega) (fun b hb => by
    obtain ⟨u, hu, rfl⟩ := List.mem_map.1 hb
    have := HC.out.each u hu
    show u.ts.length ≤ _
    omega)
  rw [List.length_map] at h9
  have H9 := Lib.hid h9
  have HBE := Lib.hid hb5
  clear hB5 hb5 h9 xb0 xb1
  go_wp2_with fail
  refine H9.out.mono ?_
  rintro e wh ⟨k, rfl, hk0, hk1, n, hwh⟩
  have hbh : Below wc.heap.size wc wh := by rw [hwh]; exact Below.drewN HBE.out n
  have HCH := Lib.hid hbh
  have HBH := Lib.hid (HBC.out.trans (hbh.mono (by omega)))
  have hsh := hbh.size
  have HOH := Lib.hid (HO.out.below hbh hsc)
  clear hwh hbh HBE H9
  by_cases hkk : k < 0
  · have z0 := (HZ.out.below HBH.out (by omega)).cell (i := 0) rfl
    have z1 := (HZ.out.below HBH.out (by omega)).cell (i := 1) rfl
    have zf0 := (HZ.out.below HBH.out (by omega)).frozen 0
    have zf1 := (HZ.out.below HBH.out (by omega)).frozen 1
    have o0 := HOH.out.cell (i := 0) rfl
    have o1 := HOH.out.cell (i := 1) rfl
    go_wp2_with fail
    obtain ⟨wf, hwf, r0, r1, hcl, hbf⟩ := clu_ret (w := w) (base := w.heap.size) (N := M) (HZ.out.below HBH.out (by omega)) rfl (HCL.out wh HCH.out) (HB.out.trans (HBH.out.mono (by omega))) (by omega)
    rw [← hwf]
    refine bodyPost_ret (v := .tuple #[.agg #[.slice A2 room.length c2, .slice (some ⟨q, 0, none⟩) vs.length d2], .int .i64 4]) (by simp [results, Try.results41, go_sem, r0, r1]) rfl ?_
    exact ⟨_, 4, rfl, hcl, hbf⟩
  obtain ⟨k, rfl⟩ : ∃ n : Nat, k = n := ⟨k.toNat, by omega⟩
  have hkd : decide ((k : Int) < 0) = false := by simp
  have hkv : k < vs.length := by have := HVL.out; omega
  have o0 := HOH.out.cell (i := 0) rfl
  have o1 := HOH.out.cell (i := 1) rfl
  have HUH := Lib.hid (HO3.out.below HCH.out)
  obtain ⟨q9, u, e9, hu, hc1, hc2, hfz, hq0, hq1⟩ := HUH.out.spot hkv
  simp only [Option.some.injEq, Addr.mk.injEq, and_true] at e9
  subst e9
  have HUT := Lib.hid (HUH.out.each u (List.mem_of_getElem? hu))
  have hul := HC2.out.each u (List.mem_of_getElem? hu)
  have HTK := Lib.hid hu
  clear hu
  go_wp2_with fail
  obtain ⟨wi, hwi⟩ : ∃ W, W = wh.alloc (.cells #[.slice u.a u.ts.length u.c] 46) := ⟨_, rfl⟩
  rw [← hwi]
  have hbi : Below wh.heap.size wh wi := by rw [hwi]; exact alloc_belowC wh _
  have hsi : wh.heap.size + 1 ≤ wi.heap.size := by rw [hwi]; simp
  have hgi : wi.cell? ⟨wh.heap.size, 0, none⟩ = some (.slice u.a u.ts.length u.c) := by rw [hwi]; exact (Blk.new wh 46 [.slice u.a u.ts.length u.c]).cell (i := 0) rfl
  refine (l15Take_one wz.heap.size wh.heap.size u.a u.c u.ts id wi hgi (HUT.out.below hbi) (by omega) (by omega)).mono ?_
  have HBI := Lib.hid hbi
  clear hwi hbi hgi o0 o1 hc1 hc2
  rintro e wj ⟨q6, d6, g6, c6, nts, z, X, n, m, rfl, hq6, hg6, hq7, hT6, hl6, hm6, hb6⟩
  obtain ⟨wk, hwk⟩ : ∃ W, W = wj.alloc (.cells #[.int .i64 z, .slice X n m] 62) := ⟨_, rfl⟩
  have hbk : Below wj.heap.size wj wk := by rw [hwk]; exact alloc_belowC wj _
  have hsj := hb6.size
  have hbhk : Below wh.heap.size wh wk := HBI.out.trans ((hb6.trans (hbk.mono hsj)).mono (by omega))
  have hsk := hbk.size
  have HCK := Lib.hid (HCH.out.trans (hbhk.mono hsh))
  have HBK := Lib.hid (HBH.out.trans (hbhk.mono HBH.out.size))
  have HOK := Lib.hid (HO.out.below HCK.out hsc)
  have HUK := Lib.hid (HUH.out.below hbhk)
  have HTN := Lib.hid (hT6.below hbk)
  have HQ6 := Lib.hid (cell_belowT hbk (World.block_lt_of_cell? wj _ hq6) hq6)
  have HM6 := Lib.hid hm6
  have HWK := Lib.hid hwk
  have HIK := Lib.hid (HI3.out.step HCK.out)
  have hk9 := hbhk.size
  have HHS : Hid (∀ j x, j ≠ k → vs[j]? = some x → ∀ g, (bcell (ubin x)).ownBlock = some g → g < wh.heap.size) := Lib.hid (fun j x _ hx g hg => ((HUH.out.each x (List.mem_of_getElem? hx)).1.lt _ hg).2)
  clear hwk hbk hbhk hT6 hq6 hm6 hb6 HBI
  go_wp2_with fail
  rw [← HWK.out]
  have o0 := HOK.out.cell (i := 0) rfl
  have o1 := HOK.out.cell (i := 1) rfl
  have hq6 := HQ6.out
  refine wp_region_U (fun w' => w'.cell? ⟨wb.heap.size, 1, none⟩ = some (.slice (some ⟨q, 0, none⟩) vs.length d2) ∧ w'.cell? ⟨q6, 0, none⟩ = some (.slice (some ⟨g6, 0, none⟩) nts.length c6)) 6 (by kernel_rfl) ⟨o1, hq6⟩ (fun hHeld => ?_)
  refine wpAnyU.take (i := 0) [6] (v := ?_) rfl (by kernel_rfl) (by kernel_rfl) (by kernel_rfl) (by kernel_rfl) (fun _ _ _ h => h) (Or.inl ⟨by rfl, ?_⟩) (by assumption) ?_
  rotate_left
  · (intro w hSw; (try dsimp only at hSw); go_simp <;> (with_reducible rfl))
  try simp only [Act.put, List.setIfInBounds_toArray, List.set_cons_zero, List.set_cons_succ]
  refine wpAnyU.take (i := 1) [6] (v := ?_) rfl (by kernel_rfl) (by kernel_rfl) (by kernel_rfl) (by kernel_rfl) (fun _ _ _ h => h) (Or.inl ⟨by rfl, ?_⟩) (by assumption) ?_
  rotate_left
  · (intro w hSw; (try dsimp only at hSw); go_simp <;> (with_reducible rfl))
  try simp only [Act.put, List.setIfInBounds_toArray, List.set_cons_zero, List.set_cons_succ]
  refine wpAnyU.take (i := 2) [6] (v := ?_) rfl (by kernel_rfl) (by kernel_rfl) (by kernel_rfl) (by kernel_rfl) (fun _ _ _ h => h) (Or.inl ⟨by rfl, ?_⟩) (by assumption) ?_
  rotate_left
  · (intro w hSw; (try dsimp only at hSw); go_simp <;> (with_reducible rfl))
  try simp only [Act.put, List.setIfInBounds_toArray, List.set_cons_zero, List.set_cons_succ]
  refine wpAnyU.take (i := 3) [6] (v := ?_) rfl (by kernel_rfl) (by kernel_rfl) (by kernel_rfl) (by kernel_rfl) (fun _ _ _ h => h) (Or.inl ⟨by rfl, ?_⟩) (by assumption) ?_
  rotate_left
  · (intro w hSw; (try dsimp only at hSw); go_simp <;> (with_reducible rfl))
  try simp only [Act.put, List.setIfInBounds_toArray, List.set_cons_zero, List.set_cons_succ]
  refine wpAnyU.take (i := 4) [6] (v := ?_) rfl (by kernel_rfl) (by kernel_rfl) (by kernel_rfl) (by kernel_rfl) (fun _ _ _ h => h) (Or.inl ⟨by rfl, ?_⟩) (by assumption) ?_
  rotate_left
  · (intro w hSw; (try dsimp only at hSw); go_simp <;> (with_reducible rfl))
  try simp only [Act.put, List.setIfInBounds_toArray, List.set_cons_zero, List.set_cons_succ]
  refine wpAnyU.take (i := 5) [6] (v := ?_) rfl (by kernel_rfl) (by kernel_rfl) (by kernel_rfl) (by kernel_rfl) (fun _ _ _ h => h) (Or.inl ⟨by rfl, ?_⟩) (by assumption) ?_
  rotate_left
  · (intro w hSw; (try dsimp only at hSw); go_simp <;> (with_reducible rfl))
  try simp only [Act.put, List.setIfInBounds_toArray, List.set_cons_zero, List.set_cons_succ]
  refine wpAnyU.one (i := 6) (by kernel_rfl) rfl (fun K hK => ?_)
  go_simp
  refine hK.out _ _ (fun h => absurd (h.symm.trans (by kernel_rfl)) Bool.false_ne_true) (fun _ => ?_)
  clear hK K
  try simp only [Act.put, List.setIfInBounds_toArray, List.set_cons_zero, List.set_cons_succ]
  refine wpAnyU.one (i := 7) (by kernel_rfl) rfl (fun K hK => ?_)
  go_simp
  refine hK.out _ _ (fun h => absurd (h.symm.trans (by kernel_rfl)) Bool.false_ne_true) (fun _ => ?_)
  clear hK K
  try simp only [Act.put, List.setIfInBounds_toArray, List.set_cons_zero, List.set_cons_succ]
  refine wpAnyU.one (i := 8) (by kernel_rfl) rfl (fun K hK => ?_)
  obtain ⟨q9, u9, e9, hu9, hc1, hc2, hfz, _, _⟩ := HUK.out.spot hkv
  simp only [Option.some.injEq, Addr.mk.injEq, and_true] at e9
  subst e9
  obtain rfl := Option.some.inj (hu9.symm.trans HTK.out)
  have hf9 := hfz (k * 2 + 1)
  go_simp
  refine hK.out _ _ (fun h => absurd (h.symm.trans (by kernel_rfl)) Bool.false_ne_true) (fun _ => ?_)
  clear hK K
  try simp only [Act.put, List.setIfInBounds_toArray, List.set_cons_zero, List.set_cons_succ]
  refine wpAnyU.done (by kernel_rfl) ?_ _
  have hput := HUK.out.put (na := some ⟨g6, 0, none⟩) (nc := c6) (nts := nts) HTK.out HUK.out.row (fun j x _ hx => HUK.out.each x (List.mem_of_getElem? hx)) HTN.out (fun j x hj hx g hg h2 => by
    simp only [Value.ownBlock, Option.some.injEq] at h2
    subst h2
    have := HHS.out j x hj hx g6 hg
    omega)
  have hcp := HC2.out.put (m := 0) (v := ⟨u9.op, some ⟨g6, 0, none⟩, c6, nts⟩) HTK.out (by show nts.length ≤ _; omega) (fun t ht => HC2.out.good u9 (List.mem_of_getElem? HTK.out) t (HM6.out t ht))
  have hI9 := (HIK.out.set_ (i := k * 2 + 1) HUK.out.row (by decide) (.slice (some ⟨g6, 0, none⟩) nts.length c6))
  obtain ⟨wg, hwg⟩ : ∃ W, W = wk.setCell ⟨q, k * 2 + 1, none⟩ (.slice (some ⟨g6, 0, none⟩) nts.length c6) := ⟨_, rfl⟩
  rw [← hwg] at hput hI9 ⊢
  have hog : Only q (q + 1) wk wg := by rw [hwg]; exact (Only.refl _ _ _).setCell (p := ⟨q, k * 2 + 1, none⟩) (Nat.le_refl _) (by simp) _
  have hdr : Below wg.heap.size wg wg.drew := (Below.refl _ _).drew
  have hsg := hog.size
  have hclg : Clu wg.drew w.heap.size M (.agg #[.slice A2 room.length c2, .slice (some ⟨q, 0, none⟩) vs.length d2]) :=
    ⟨A2, c2, _, d2, room, _, by rw [List.length_set], ((hI9.mono (Nat.le_refl _) hsg).step hdr).mono (by omega) (Nat.le_refl _), (hput.below hdr).mono (by omega), hcp⟩
  have hbg : Below w.heap.size w wg.drew := (HB.out.trans (HBK.out.mono (by omega))).trans ((hog.below (by omega) (by omega)).drew)
  have hqb : q < wb.heap.size := (HOB.out.row.lt q rfl).2
  have hqo : q ≠ wb.heap.size := by omega
  have hZg : Blk wg.drew (w.heap.size + 1) 28 [.slice none 0 0, .slice none 0 0] := ((HZ.out.below HBK.out (by omega)).only hog (.inl (by omega))).drew
  have hOg : Blk wg.drew wb.heap.size 28 [.slice A2 room.length c2, .slice (some ⟨q, 0, none⟩) vs.length d2] := (HOK.out.only hog (by omega)).drew
  have HCLG := Lib.hid hclg
  have HBG := Lib.hid hbg
  have HZG := Lib.hid hZg
  have p0 := hOg.cell (i := 0) rfl
  have p1 := hOg.cell (i := 1) rfl
  have z0 := hZg.cell (i := 0) rfl
  have z1 := hZg.cell (i := 1) rfl
  have zf0 := hZg.frozen 0
  have zf1 := hZg.frozen 1
  obtain ⟨wr, hwr⟩ : ∃ W, W = wg.drew := ⟨_, rfl⟩
  rw [← hwr] at HCLG HBG HZG p0 p1 z0 z1 zf0 zf1 ⊢
  clear hclg hbg hZg hOg hput hI9 hcp hog hwg o0 o1 hc1 hc2 hfz hf9 hHeld hwr hdr
  go_wp2_with fail
  obtain ⟨wf, hwf, r0, r1, hcl, hbf⟩ := clu_ret (w := w) (base := w.heap.size) (N := M) HZG.out rfl HCLG.out HBG.out (by omega)
  rw [← hwf]
  refine bodyPost_ret (v := .tuple #[.agg #[.slice A2 room.length c2, .slice (some ⟨q, 0, none⟩) vs.length d2], .int .i64 0]) (by simp [results, Try.results41, go_sem, r0, r1]) rfl ?_
  exact ⟨_, 0, rfl, hcl, hbf⟩
end Go.Proofs.Ytcmampicgdobcaa
