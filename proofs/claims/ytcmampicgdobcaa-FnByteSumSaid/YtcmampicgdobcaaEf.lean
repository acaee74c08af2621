/- ClusterOpen. No condition but on sizes. -/
import Derived.Test.YtcmampicgdobcaaEe
namespace Go.Proofs.Ytcmampicgdobcaa
open Go.RowKit
set_option linter.unusedSimpArgs false in
set_option maxHeartbeats 2000000 in
theorem clusterOpenS_any (A B : Option Addr) (c d M l1 h1 lo hi : Nat) (room : List Int) (node : Int) (op : Bool) (us : List UniV) (w : World) (hA : Ints w l1 h1 A c room) (hU : UniT w lo hi B d us) (hC : CluOk M room us) (hM : M ≤ 100)
    (g1 : h1 ≤ w.heap.size) (g2 : hi ≤ w.heap.size) :
    Calls Try.prog 42 #[.agg #[.slice A room.length c, .slice B us.length d], .int .i64 node, .bool op] w (RetM w.heap.size M w) := by
  obtain ⟨w0, hw0⟩ : ∃ W, W = w.alloc (.cells #[.slice A room.length c, .slice B us.length d] 28) := ⟨_, rfl⟩
  obtain ⟨wz, hwz⟩ : ∃ W, W = w0.alloc (.cells #[.slice none 0 0, .slice none 0 0] 28) := ⟨_, rfl⟩
  have HW0 := Lib.hid hw0
  have HWZ := Lib.hid hwz
  have hb0 : Below w.heap.size w w0 := by rw [hw0]; exact alloc_belowC w _
  have hbz : Below w0.heap.size w0 wz := by rw [hwz]; exact alloc_belowC w0 _
  have hs0 : w0.heap.size = w.heap.size + 1 := by rw [hw0]; simp
  have hsz : w0.heap.size + 1 = wz.heap.size := by rw [hwz]; simp
  have hX0 : Blk w0 w.heap.size 28 [.slice A room.length c, .slice B us.length d] := by rw [hw0]; exact Blk.new w _ [.slice A room.length c, .slice B us.length d]
  have HX := Lib.hid (hX0.step hbz)
  have hZ0 : Blk wz w0.heap.size 28 [.slice none 0 0, .slice none 0 0] := by rw [hwz]; exact Blk.new w0 _ [.slice none 0 0, .slice none 0 0]
  rw [hs0] at hZ0
  have HZ := Lib.hid hZ0
  have hb01 : Below w.heap.size w wz := hb0.trans (hbz.mono (by omega))
  have hsw : w.heap.size + 2 ≤ wz.heap.size := by omega
  have HA := Lib.hid (hA.below hb01 g1)
  have HU := Lib.hid (hU.below hb01 g2)
  have HB := Lib.hid hb01
  have HC := Lib.hid hC
  have hx0 := HX.out.cell (i := 0) rfl
  have hx1 := HX.out.cell (i := 1) rfl
  clear hw0 hwz hb0 hbz hs0 hsz hX0 hZ0 hb01 hA hU hC
  have hroom : room.length ≤ 3 := HC.out.roomle
  go_enter Try.func42, Try.ntmps42
  go_wp2_with fail
  rw [← HW0.out, ← HWZ.out]
  refine (clusterValidS_some A B c d l1 h1 lo hi room us wz HA.out (by omega) HU.out (by have := HC.out.few; omega) (by have := HC.out.many; omega) HC.out.needB (by omega) (by omega)).mono ?_
  rintro e wa ⟨v, rfl, hba⟩
  have HBA := Lib.hid hba
  have hsa := hba.size
  clear hba
  cases v
  · have z0 := (HZ.out.below HBA.out (by omega)).cell (i := 0) rfl
    have z1 := (HZ.out.below HBA.out (by omega)).cell (i := 1) rfl
    have zf0 := (HZ.out.below HBA.out (by omega)).frozen 0
    have zf1 := (HZ.out.below HBA.out (by omega)).frozen 1
    go_wp2_with fail
    obtain ⟨wf, hwf, r0, r1, hcl, hbf⟩ := clu_ret (w := w) (base := w.heap.size) (N := M) (HZ.out.below HBA.out (by omega)) rfl (Clu.zero wa _ _) (HB.out.trans (HBA.out.mono (by omega))) (by omega)
    rw [← hwf]
    refine bodyPost_ret (v := .tuple #[.agg #[.slice none 0 0, .slice none 0 0], .int .i64 1]) (by simp [results, Try.results42, go_sem, r0, r1]) rfl ?_
    exact ⟨_, 1, rfl, hcl, hbf⟩
  have xa0 := cell_belowT HBA.out (show w.heap.size < wz.heap.size by omega) hx0
  have xa1 := cell_belowT HBA.out (show w.heap.size < wz.heap.size by omega) hx1
  go_wp2_with fail
  refine (l21Copy_any A B c d l1 h1 lo hi room us wa (HA.out.below HBA.out (by omega)) (by omega) (HU.out.below HBA.out (by omega)) (by have := HC.out.few; omega) (fun u hu => by have := HC.out.each u hu; omega) HC.out.need (by omega) (by omega)).mono ?_
  rintro e wb ⟨A2, c2, q, d2, vs, rfl, hI2, hO2, hpv, hbb⟩
  have HC2 := Lib.hid (HC.out.same hpv)
  have hvl : vs.length = us.length := by have := congrArg List.length hpv; simpa using this
  have HVL := Lib.hid hvl
  have hsb := hbb.size
  have HBB := Lib.hid (HBA.out.trans (hbb.mono hsa))
  obtain ⟨wc, hwc⟩ : ∃ W, W = wb.alloc (.cells #[.slice A2 room.length c2, .slice (some ⟨q, 0, none⟩) vs.length d2] 28) := ⟨_, rfl⟩
  have hbc : Below wb.heap.size wb wc := by rw [hwc]; exact alloc_belowC wb _
  have HWC := Lib.hid hwc
  have HO : Hid (Blk wc wb.heap.size 28 [.slice A2 room.length c2, .slice (some ⟨q, 0, none⟩) vs.length d2]) := Lib.hid (by rw [hwc]; exact Blk.new wb _ [.slice A2 room.length c2, .slice (some ⟨q, 0, none⟩) vs.length d2])
  have HBC := Lib.hid (HBB.out.trans (hbc.mono (by omega)))
  have hsc : wb.heap.size + 1 ≤ wc.heap.size := by rw [hwc]; simp
  have HI3 := Lib.hid ((hI2.step hbc).mono (show wz.heap.size ≤ wa.heap.size by omega) (Nat.le_refl _))
  have HO3 := Lib.hid ((hO2.below hbc).mono (show wz.heap.size ≤ wa.heap.size by omega))
  have HOB : Hid (OwnU wb wz.heap.size (some ⟨q, 0, none⟩) d2 vs) := Lib.hid (hO2.mono (show wz.heap.size ≤ wa.heap.size by omega))
  clear hwc hbc hpv hbb hvl hI2 hO2 xa0 xa1
  have xb0 := cell_belowT HBB.out (show w.heap.size < wz.heap.size by omega) hx0
  have xb1 := cell_belowT HBB.out (show w.heap.size < wz.heap.size by omega) hx1
  have n1 : w.heap.size ≠ wb.heap.size := by omega
  have n3 : w.heap.size < wb.heap.size := by omega
  have HCL : Hid (∀ W : World, Below wc.heap.size wc W → Clu W w.heap.size M (.agg #[.slice A2 room.length c2, .slice (some ⟨q, 0, none⟩) vs.length d2])) := Lib.hid (fun W hW => ⟨A2, c2, _, d2, room, vs, rfl, (HI3.out.step hW).mono (by omega) (Nat.le_refl _), (HO3.out.below hW).mono (by omega), HC2.out⟩)
  have hfew := HC.out.few
  have hws : IntKind.i64.wrap ((us.length : Int) - 1) = (us.length : Int) - 1 := wrap_small (by omega)
  have HOC := HO
  have HCC := Lib.hid (Below.refl wc.heap.size wc)
  cases hin : inB node 0 ((us.length : Int) - 1)
  · have Q1 := fun W => (l6In_any node 0 ((us.length : Int) - 1) W).mono (R' := fun e w' => e = .returned (.bool (inB node 0 ((us.length : Int) - 1))) ∧ w' = W) (fun _ _ h => ⟨h.1, h.2.symm⟩)
    rw [hin] at Q1
    have HQ1 := Lib.hid Q1
    clear hin Q1
    go_wp2_with fail
    rw [← HWC.out]
    refine (HQ1.out wc).mono ?_; rintro e w' ⟨rfl, rfl⟩
    have z0 := (HZ.out.below HBC.out (by omega)).cell (i := 0) rfl
    have z1 := (HZ.out.below HBC.out (by omega)).cell (i := 1) rfl
    have zf0 := (HZ.out.below HBC.out (by omega)).frozen 0
    have zf1 := (HZ.out.below HBC.out (by omega)).frozen 1
    have o0 := HOC.out.cell (i := 0) rfl
    have o1 := HOC.out.cell (i := 1) rfl
    go_wp2_with fail
    obtain ⟨wf, hwf, r0, r1, hcl, hbf⟩ := clu_ret (w := w) (base := w.heap.size) (N := M) (HZ.out.below HBC.out (by omega)) rfl (HCL.out w' HCC.out) (HB.out.trans (HBC.out.mono (by omega))) (by omega)
    rw [← hwf]
    refine bodyPost_ret (v := .tuple #[.agg #[.slice A2 room.length c2, .slice (some ⟨q, 0, none⟩) vs.length d2], .int .i64 4]) (by simp [results, Try.results42, go_sem, r0, r1]) rfl ?_
    exact ⟨_, 4, rfl, hcl, hbf⟩
  have hr := inB_of hin
  obtain ⟨k, rfl⟩ : ∃ n : Nat, node = n := ⟨node.toNat, by omega⟩
  have hku : k < us.length := by omega
  have hkv : k < vs.length := by have := HVL.out; omega
  have Q1 := fun W => (l6In_any (k : Int) 0 ((us.length : Int) - 1) W).mono (R' := fun e w' => e = .returned (.bool (inB (k : Int) 0 ((us.length : Int) - 1))) ∧ w' = W) (fun _ _ h => ⟨h.1, h.2.symm⟩)
  rw [hin] at Q1
  have HQ1 := Lib.hid Q1
  clear hin Q1 hr
  obtain ⟨b1, off1, u, rfl, hu, hc1, hc2, _, hbh, _⟩ := (HU.out.below HBC.out (by omega)).at_ hku
  have hx0c := cell_belowT HBC.out (show w.heap.size < wz.heap.size by omega) hx0
  have hx1c := cell_belowT HBC.out (show w.heap.size < wz.heap.size by omega) hx1
  clear hu
  go_wp2_with fail
  rw [← HWC.out]
  refine (HQ1.out wc).mono ?_; rintro e w' ⟨rfl, rfl⟩
  obtain ⟨v, hv⟩ : ∃ v, (u.op == op) = v := ⟨_, rfl⟩
  cases v
  · by_cases hts : (0 : Int) < (u.ts.length : Int)
    · have z0 := (HZ.out.below HBC.out (by omega)).cell (i := 0) rfl
      have z1 := (HZ.out.below HBC.out (by omega)).cell (i := 1) rfl
      have zf0 := (HZ.out.below HBC.out (by omega)).frozen 0
      have zf1 := (HZ.out.below HBC.out (by omega)).frozen 1
      have o0 := HOC.out.cell (i := 0) rfl
      have o1 := HOC.out.cell (i := 1) rfl
      go_wp2_with fail
      obtain ⟨wf, hwf, r0, r1, hcl, hbf⟩ := clu_ret (w := w) (base := w.heap.size) (N := M) (HZ.out.below HBC.out (by omega)) rfl (HCL.out w' HCC.out) (HB.out.trans (HBC.out.mono (by omega))) (by omega)
      rw [← hwf]
      refine bodyPost_ret (v := .tuple #[.agg #[.slice A2 room.length c2, .slice (some ⟨q, 0, none⟩) vs.length d2], .int .i64 5]) (by simp [results, Try.results42, go_sem, r0, r1]) rfl ?_
      exact ⟨_, 5, rfl, hcl, hbf⟩
    · have o0 := HOC.out.cell (i := 0) rfl
      have o1 := HOC.out.cell (i := 1) rfl
      obtain ⟨q9, u9, e9, hu9, hd1, hd2, hfz, hq0, hq1⟩ := HO3.out.spot hkv
      simp only [Option.some.injEq, Addr.mk.injEq, and_true] at e9
      subst e9
      have hfk := hfz (k * 2)
      have hqb : q < wb.heap.size := (HOB.out.row.lt q rfl).2
      have hqo : q ≠ wb.heap.size := by omega
      have HTK := Lib.hid hu9
      clear hu9
      have hqz : q ≠ w.heap.size + 1 := by omega
      have z0 := (HZ.out.below HBC.out (by omega)).cell (i := 0) rfl
      have z1 := (HZ.out.below HBC.out (by omega)).cell (i := 1) rfl
      have zf0 := (HZ.out.below HBC.out (by omega)).frozen 0
      have zf1 := (HZ.out.below HBC.out (by omega)).frozen 1
      have hput := HO3.out.setOp HTK.out op
      have hcp := HC2.out.op HTK.out op
      have hI9 := HI3.out.set_ (i := k * 2) HO3.out.row (by decide) (.bool op)
      obtain ⟨wg, hwg⟩ : ∃ W, W = w'.setCell ⟨q, k * 2, none⟩ (.bool op) := ⟨_, rfl⟩
      rw [← hwg] at hput hI9
      have hog : Only q (q + 1) w' wg := by rw [hwg]; exact (Only.refl _ _ _).setCell (p := ⟨q, k * 2, none⟩) (Nat.le_refl _) (by simp) _
      have hsg := hog.size
      have hclg : Clu wg w.heap.size M (.agg #[.slice A2 room.length c2, .slice (some ⟨q, 0, none⟩) vs.length d2]) :=
        ⟨A2, c2, _, d2, room, _, by rw [List.length_set], (hI9.mono (Nat.le_refl _) hsg).mono (by omega) (Nat.le_refl _), hput.mono (by omega), hcp⟩
      have hbg : Below w.heap.size w wg := (HB.out.trans (HBC.out.mono (by omega))).trans (hog.below (by omega) (by omega))
      have hZg : Blk wg (w.heap.size + 1) 28 [.slice none 0 0, .slice none 0 0] := (HZ.out.below HBC.out (by omega)).only hog (.inl (by omega))
      have HCLG := Lib.hid hclg
      have HBG := Lib.hid hbg
      have HZG := Lib.hid hZg
      have HWG := Lib.hid hwg
      clear hclg hbg hZg hput hI9 hcp hog hwg hsg
      go_wp2_with fail
      rw [← HWG.out]
      obtain ⟨wf, hwf, r0, r1, hcl, hbf⟩ := clu_ret (w := w) (base := w.heap.size) (N := M) HZG.out rfl HCLG.out HBG.out (by omega)
      rw [← hwf]
      refine bodyPost_ret (v := .tuple #[.agg #[.slice A2 room.length c2, .slice (some ⟨q, 0, none⟩) vs.length d2], .int .i64 0]) (by simp [results, Try.results42, go_sem, r0, r1]) rfl ?_
      exact ⟨_, 0, rfl, hcl, hbf⟩
  · have z0 := (HZ.out.below HBC.out (by omega)).cell (i := 0) rfl
    have z1 := (HZ.out.below HBC.out (by omega)).cell (i := 1) rfl
    have zf0 := (HZ.out.below HBC.out (by omega)).frozen 0
    have zf1 := (HZ.out.below HBC.out (by omega)).frozen 1
    have o0 := HOC.out.cell (i := 0) rfl
    have o1 := HOC.out.cell (i := 1) rfl
    go_wp2_with fail
    obtain ⟨wf, hwf, r0, r1, hcl, hbf⟩ := clu_ret (w := w) (base := w.heap.size) (N := M) (HZ.out.below HBC.out (by omega)) rfl (HCL.out w' HCC.out) (HB.out.trans (HBC.out.mono (by omega))) (by omega)
    rw [← hwf]
    refine bodyPost_ret (v := .tuple #[.agg #[.slice A2 room.length c2, .slice (some ⟨q, 0, none⟩) vs.length d2], .int .i64 2]) (by simp [results, Try.results42, go_sem, r0, r1]) rfl ?_
    exact ⟨_, 2, rfl, hcl, hbf⟩
end Go.Proofs.Ytcmampicgdobcaa
