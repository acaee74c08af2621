/- l21Arrive. No condition but on sizes. -/
import Derived.Test.YtcmampicgdobcaaEa
namespace Go.Proofs.Ytcmampicgdobcaa
open Go.RowKit
/-- an own cluster and a code are returned, nothing below base changed -/
def RetM (base N : Nat) (w : World) (e : Ending) (w' : World) : Prop := ∃ v, ∃ k : Int, e = .returned (.tuple #[v, .int .i64 k]) ∧ Clu w' base N v ∧ Below base w w'
set_option linter.unusedSimpArgs false in
set_option maxHeartbeats 2000000 in
theorem l21Arrive_any (A B N : Option Addr) (c d e0 base M l2 h2 : Nat) (room need : List Int) (id : Int) (gr : Bool) (us : List UniV) (w : World) (hA : IntsE 3 w base w.heap.size A c room) (hU : OwnU w base B d us) (hC : CluOk M room us) (hM : M ≤ 100)
    (hN : Ints w l2 h2 N e0 need) (hn : GoodN need) (g0 : base ≤ w.heap.size) (g3 : h2 ≤ base) :
    Calls Try.prog 57 #[.agg #[.slice A room.length c, .slice B us.length d], .agg #[.int .i64 id, .slice N need.length e0], .bool gr] w (RetM base (M + 1) w) := by
  obtain ⟨w0, hw0⟩ : ∃ W, W = w.alloc (.cells #[.slice A room.length c, .slice B us.length d] 28) := ⟨_, rfl⟩
  obtain ⟨w1, hw1⟩ : ∃ W, W = w0.alloc (.cells #[.int .i64 id, .slice N need.length e0] 62) := ⟨_, rfl⟩
  obtain ⟨wz, hwz⟩ : ∃ W, W = w1.alloc (.cells #[.slice none 0 0, .slice none 0 0] 28) := ⟨_, rfl⟩
  have HW0 := Lib.hid hw0
  have HW1 := Lib.hid hw1
  have HWZ := Lib.hid hwz
  have hb0 : Below w.heap.size w w0 := by rw [hw0]; exact alloc_belowC w _
  have hb1 : Below w0.heap.size w0 w1 := by rw [hw1]; exact alloc_belowC w0 _
  have hbz : Below w1.heap.size w1 wz := by rw [hwz]; exact alloc_belowC w1 _
  have hs0 : w0.heap.size = w.heap.size + 1 := by rw [hw0]; simp
  have hs1 : w1.heap.size = w.heap.size + 1 + 1 := by rw [hw1]; simp [hs0]
  have hsz : w1.heap.size + 1 = wz.heap.size := by rw [hwz]; simp
  have hX0 : Blk w0 w.heap.size 28 [.slice A room.length c, .slice B us.length d] := by rw [hw0]; exact Blk.new w _ [.slice A room.length c, .slice B us.length d]
  have HX := Lib.hid ((hX0.step hb1).step hbz)
  have hY0 : Blk w1 w0.heap.size 62 [.int .i64 id, .slice N need.length e0] := by rw [hw1]; exact Blk.new w0 _ [.int .i64 id, .slice N need.length e0]
  rw [hs0] at hY0
  have HY := Lib.hid (hY0.step hbz)
  have hZ0 : Blk wz w1.heap.size 28 [.slice none 0 0, .slice none 0 0] := by rw [hwz]; exact Blk.new w1 _ [.slice none 0 0, .slice none 0 0]
  rw [hs1] at hZ0
  have HZ := Lib.hid hZ0
  have hb01 : Below w.heap.size w wz := (hb0.trans (hb1.mono (by omega))).trans (hbz.mono (by omega))
  have hsw : w.heap.size + 3 = wz.heap.size := by omega
  have HA := Lib.hid (hA.step hb01)
  have HU := Lib.hid (hU.below hb01)
  have HN := Lib.hid (hN.below hb01 (by omega))
  have HU0 := Lib.hid hU
  have HB := Lib.hid hb01
  have HC := Lib.hid hC
  have HGN := Lib.hid hn
  have HSW := Lib.hid hsw
  have hx0 := HX.out.cell (i := 0) rfl
  have hx1 := HX.out.cell (i := 1) rfl
  have hy0 := HY.out.cell (i := 0) rfl
  have hy1 := HY.out.cell (i := 1) rfl
  clear hw0 hw1 hwz hb0 hb1 hbz hs0 hs1 hsz hX0 hY0 hZ0 hb01 hA hU hN hn hC hsw
  have hswl : w.heap.size + 3 ≤ wz.heap.size := by have := HSW.out; omega
  have H1 : Hid (∀ (op : Bool) (W : World), Below wz.heap.size wz W → Calls Try.prog 67 #[.agg #[.slice A room.length c, .slice B us.length d], .agg #[.int .i64 id, .slice N need.length e0], .bool op] W (RetK us.length W)) := Lib.hid (fun op W hW => by
    have hs := hW.size
    refine l21At_any A B N c d e0 _ _ _ _ _ _ room need id op us W (HA.out.1.below hW (Nat.le_refl _)) HC.out.room3 (HU.out.units.below hW (Nat.le_refl _)) (HN.out.below hW (by omega)) HGN.out (by have := HC.out.few; omega) (fun u hu => by have := HC.out.each u hu; omega) (fun u hu => HC.out.good u hu) hs hs (by omega))
  have HCL : Hid (∀ W : World, Below wz.heap.size wz W → Clu W base (M + 1) (.agg #[.slice A room.length c, .slice B us.length d])) := Lib.hid (fun W hW => ⟨A, c, B, d, room, us, rfl, HA.out.step hW, HU.out.below hW, HC.out.mono (by omega)⟩)
  go_enter Try.func57, Try.ntmps57
  go_wp2_with fail
  rw [← HW0.out, ← HW1.out, ← HWZ.out]
  refine (H1.out true wz (Below.refl _ _)).mono ?_
  rintro e wa ⟨k1, rfl, hk0, hk1, hba⟩
  have HBA := Lib.hid hba
  have hsa := hba.size
  have xa0 := cell_belowT hba (show w.heap.size < wz.heap.size by omega) hx0
  have xa1 := cell_belowT hba (show w.heap.size < wz.heap.size by omega) hx1
  have ya0 := cell_belowT hba (show w.heap.size + 1 < wz.heap.size by omega) hy0
  have ya1 := cell_belowT hba (show w.heap.size + 1 < wz.heap.size by omega) hy1
  clear hba
  by_cases hkk : k1 < 0
  cases gr
  · 
      have z0 := (HZ.out.below HBA.out (by omega)).cell (i := 0) rfl
      have z1 := (HZ.out.below HBA.out (by omega)).cell (i := 1) rfl
      have zf0 := (HZ.out.below HBA.out (by omega)).frozen 0
      have zf1 := (HZ.out.below HBA.out (by omega)).frozen 1
      go_wp2_with fail
      obtain ⟨wf, hwf, r0, r1, hcl, hbf⟩ := clu_ret (w := w) (base := base) (N := M + 1) (HZ.out.below HBA.out (by omega)) rfl (HCL.out wa HBA.out) (HB.out.mono g0 |>.trans (HBA.out.mono (by omega))) (by omega)
      rw [← hwf]
      refine bodyPost_ret (v := .tuple #[.agg #[.slice A room.length c, .slice B us.length d], .int .i64 3]) (by simp [results, Try.results57, go_sem, r0, r1]) rfl ?_
      exact ⟨_, 3, rfl, hcl, hbf⟩
  go_wp2_with fail
  refine (H1.out false wa HBA.out).mono ?_
  have HBO := HBA
  have hso := hsa
  clear HBA hsa xa0 xa1 ya0 ya1
  rintro e wa ⟨k1, rfl, hk0, hk1, hba⟩
  have HBA := Lib.hid (HBO.out.trans (hba.mono hso))
  have hsa := HBA.out.size
  have xa0 := cell_belowT HBA.out (show w.heap.size < wz.heap.size by omega) hx0
  have xa1 := cell_belowT HBA.out (show w.heap.size < wz.heap.size by omega) hx1
  have ya0 := cell_belowT HBA.out (show w.heap.size + 1 < wz.heap.size by omega) hy0
  have ya1 := cell_belowT HBA.out (show w.heap.size + 1 < wz.heap.size by omega) hy1
  clear hba HBO hso
  by_cases hkk2 : k1 < 0
  · 
      have z0 := (HZ.out.below HBA.out (by omega)).cell (i := 0) rfl
      have z1 := (HZ.out.below HBA.out (by omega)).cell (i := 1) rfl
      have zf0 := (HZ.out.below HBA.out (by omega)).frozen 0
      have zf1 := (HZ.out.below HBA.out (by omega)).frozen 1
      go_wp2_with fail
      obtain ⟨wf, hwf, r0, r1, hcl, hbf⟩ := clu_ret (w := w) (base := base) (N := M + 1) (HZ.out.below HBA.out (by omega)) rfl (HCL.out wa HBA.out) (HB.out.mono g0 |>.trans (HBA.out.mono (by omega))) (by omega)
      rw [← hwf]
      refine bodyPost_ret (v := .tuple #[.agg #[.slice A room.length c, .slice B us.length d], .int .i64 3]) (by simp [results, Try.results57, go_sem, r0, r1]) rfl ?_
      exact ⟨_, 3, rfl, hcl, hbf⟩
  all_goals
    obtain ⟨k, rfl⟩ : ∃ n : Nat, k1 = n := ⟨k1.toNat, by omega⟩
    have hkl : k < us.length := by omega
    have hkd : decide ((k : Int) < 0) = false := by simp
    have HUA := Lib.hid ((HU.out.units).below HBA.out (Nat.le_refl _))
    go_wp2_with fail
    refine (l21Bins_any A B room.length c d base wz.heap.size us wa HUA.out (by have := HC.out.few; omega) hsa).mono ?_
    rintro e wb ⟨q5, d5, rfl, hB5, hb5⟩
    have h9 := l2All_any (some ⟨q5, 0, none⟩) d5 0 wb.heap.size (us.map ubin) wb hB5 (by rw [List.length_map]; have := HC.out.few; omega) (by have := HC.out.many; omega) (Nat.le_refl _)
    rw [List.length_map] at h9
    have H9 := Lib.hid h9
    have HBB := Lib.hid (HBA.out.trans (hb5.mono hsa))
    clear hB5 hb5 h9
    have xb1 := cell_belowT HBB.out (show w.heap.size < wz.heap.size by omega) hx1
    go_wp2_with fail
    refine H9.out.mono ?_
    rintro e wc ⟨A9, c9, rfl, _, hb9⟩
    have HBC := Lib.hid (HBB.out.trans (hb9.mono HBB.out.size))
    have hsc := HBC.out.size
    clear hb9 H9 HBB HBA HUA xa0 xa1 ya0 ya1
    have xa0 := cell_belowT HBC.out (show w.heap.size < wz.heap.size by omega) hx0
    have xa1 := cell_belowT HBC.out (show w.heap.size < wz.heap.size by omega) hx1
    have ya0 := cell_belowT HBC.out (show w.heap.size + 1 < wz.heap.size by omega) hy0
    have ya1 := cell_belowT HBC.out (show w.heap.size + 1 < wz.heap.size by omega) hy1
    by_cases h14 : ((bflat (us.map ubin)).length : Int) = 14
    · 
      have z0 := (HZ.out.below HBC.out (by omega)).cell (i := 0) rfl
      have z1 := (HZ.out.below HBC.out (by omega)).cell (i := 1) rfl
      have zf0 := (HZ.out.below HBC.out (by omega)).frozen 0
      have zf1 := (HZ.out.below HBC.out (by omega)).frozen 1
      go_wp2_with fail
      obtain ⟨wf, hwf, r0, r1, hcl, hbf⟩ := clu_ret (w := w) (base := base) (N := M + 1) (HZ.out.below HBC.out (by omega)) rfl (HCL.out wc HBC.out) (HB.out.mono g0 |>.trans (HBC.out.mono (by omega))) (by omega)
      rw [← hwf]
      refine bodyPost_ret (v := .tuple #[.agg #[.slice A room.length c, .slice B us.length d], .int .i64 3]) (by simp [results, Try.results57, go_sem, r0, r1]) rfl ?_
      exact ⟨_, 3, rfl, hcl, hbf⟩
    · obtain ⟨q, u, rfl, hu, _, _, _, hq0, hq1⟩ := HU0.out.spot hkl
      obtain ⟨q2, u2, e2, hu2, hc1, hc2, hfz, _, _⟩ := (HU.out.below HBC.out).spot hkl
      simp only [Option.some.injEq, Addr.mk.injEq, and_true] at e2
      subst e2
      obtain rfl := Option.some.inj (hu2.symm.trans hu)
      have hcf := hfz (k * 2)
      obtain ⟨wd, hwd⟩ : ∃ W, W = wc.setCell ⟨q, k * 2, none⟩ (.bool true) := ⟨_, rfl⟩
      obtain ⟨u1, hu1⟩ : ∃ v : UniV, v = { u2 with op := true } := ⟨_, rfl⟩
      have hus1 : (us.set k u1)[k]? = some u1 := by rw [List.getElem?_set]; simp [hkl]
      have hUd : OwnU wd base (some ⟨q, 0, none⟩) d (us.set k u1) := by rw [hwd, hu1]; exact (HU.out.below HBC.out).setOp hu true
      have hCd : CluOk M room (us.set k u1) := by rw [hu1]; exact HC.out.op hu true
      have hAd : IntsE 3 wd base wd.heap.size (A) c room := by
        rw [hwd]; exact ((HA.out.step HBC.out).set_ (HU.out.below HBC.out).row (by decide) _).mono (Nat.le_refl _) (by simp [World.setCell])
      have hod : Only q (q + 1) wc wd := by rw [hwd]; exact (Only.refl _ _ _).setCell (p := ⟨q, k * 2, none⟩) (Nat.le_refl _) (by simp) _
      have hsd : wd.heap.size = wc.heap.size := by rw [hwd]; simp [World.setCell]
      have hXd := (HX.out.below HBC.out (by omega)).only hod (.inr hq1)
      have hYd := (HY.out.below HBC.out (by omega)).only hod (.inr (by omega))
      have hZd := (HZ.out.below HBC.out (by omega)).only hod (.inr (by omega))
      have hNd := (HN.out.below HBC.out (by omega)).only hod (.inl (by omega)) (by omega)
      have hBd : Below base w wd := (HB.out.mono g0 |>.trans (HBC.out.mono (by omega))).trans (hod.below hq0 (by omega))
      have HBLK : Hid ((Value.slice u1.a u1.ts.length u1.c).ownBlock ≠ some (w.heap.size + 1)) := Lib.hid (by rw [hu1]; exact fun h => by have := ((HU0.out.each u2 (List.mem_of_getElem? hu)).1.lt _ h).2; omega)
      have HUD := Lib.hid hUd
      have HCD := Lib.hid hCd
      have HAD := Lib.hid hAd
      have HXD := Lib.hid hXd
      have HYD := Lib.hid hYd
      have HZD := Lib.hid hZd
      have HND := Lib.hid hNd
      have HBD := Lib.hid hBd
      have HUS := Lib.hid hus1
      have HU1 := Lib.hid hu1
      have HWD := Lib.hid hwd
      have hsd' : w.heap.size + 3 ≤ wd.heap.size := by omega
      have h14b : (((bflat (us.map ubin)).length : Int) == 14) = false := by simpa using h14
      clear hu hu2 hus1 hUd hCd hAd hod hXd hYd hZd hNd hBd hu1 hwd hsd
      go_wp2_with fail
      rw [← HWD.out]
      have hXd := HXD.out
      have hYd := HYD.out
      have hlsd : (us.set k u1).length = us.length := List.length_set
      have HLS := Lib.hid hlsd
      have hul : u1.ts.length ≤ M := HCD.out.each u1 (List.mem_of_getElem? HUS.out)
      have hnl : need.length ≤ 1000 := by have := HGN.out.1; omega
      obtain ⟨qq, uu, ee, huu, hd1, hd2, hdf, _, hqd⟩ := HUD.out.spot (k := k) (by have := HLS.out; omega)
      simp only [Option.some.injEq, Addr.mk.injEq, and_true] at ee
      subst ee
      obtain rfl := Option.some.inj (huu.symm.trans HUS.out)
      have sx1 := hXd.cell (i := 1) rfl
      have sy0 := hYd.cell (i := 0) rfl
      have sy1 := hYd.cell (i := 1) rfl
      clear hXd hYd huu hlsd hd1 hdf
      refine wp_region_U (fun w' => w'.cell? ⟨w.heap.size, 1, none⟩ = some (.slice (some ⟨q, 0, none⟩) us.length d) ∧ w'.cell? ⟨w.heap.size + 1, 0, none⟩ = some (.int .i64 id) ∧ w'.cell? ⟨w.heap.size + 1, 1, none⟩ = some (.slice N need.length e0) ∧ w'.cell? ⟨q, k * 2 + 1, none⟩ = some (.slice uu.a uu.ts.length uu.c)) 18 (by kernel_rfl) ⟨sx1, sy0, sy1, hd2⟩ (fun hHeld => ?_)
      refine wpAnyU.take (i := 0) [18] (v := ?_) rfl (by kernel_rfl) (by kernel_rfl) (by kernel_rfl) (by kernel_rfl) (fun _ _ _ h => h) (Or.inl ⟨by rfl, ?_⟩) (by assumption) ?_
      rotate_left
      · (intro w hSw; (try dsimp only at hSw); go_simp <;> (with_reducible rfl))
      try simp only [Act.put, List.setIfInBounds_toArray, List.set_cons_zero, List.set_cons_succ]
      refine wpAnyU.take (i := 1) [18] (v := ?_) rfl (by kernel_rfl) (by kernel_rfl) (by kernel_rfl) (by kernel_rfl) (fun _ _ _ h => h) (Or.inl ⟨by rfl, ?_⟩) (by assumption) ?_
      rotate_left
      · (intro w hSw; (try dsimp only at hSw); go_simp <;> (with_reducible rfl))
      try simp only [Act.put, List.setIfInBounds_toArray, List.set_cons_zero, List.set_cons_succ]
      refine wpAnyU.take (i := 2) [18] (v := ?_) rfl (by kernel_rfl) (by kernel_rfl) (by kernel_rfl) (by kernel_rfl) (fun _ _ _ h => h) (Or.inl ⟨by rfl, ?_⟩) (by assumption) ?_
      rotate_left
      · (intro w hSw; (try dsimp only at hSw); go_simp <;> (with_reducible rfl))
      try simp only [Act.put, List.setIfInBounds_toArray, List.set_cons_zero, List.set_cons_succ]
      refine wpAnyU.take (i := 3) [18] (v := ?_) rfl (by kernel_rfl) (by kernel_rfl) (by kernel_rfl) (by kernel_rfl) (fun _ _ _ h => h) (Or.inl ⟨by rfl, ?_⟩) (by assumption) ?_
      rotate_left
      · (intro w hSw; (try dsimp only at hSw); go_simp <;> (with_reducible rfl))
      try simp only [Act.put, List.setIfInBounds_toArray, List.set_cons_zero, List.set_cons_succ]
      refine wpAnyU.take (i := 4) [18] (v := ?_) rfl (by kernel_rfl) (by kernel_rfl) (by kernel_rfl) (by kernel_rfl) (fun _ _ _ h => h) (Or.inl ⟨by rfl, ?_⟩) (by assumption) ?_
      rotate_left
      · (intro w hSw; (try dsimp only at hSw); go_simp <;> (with_reducible rfl))
      try simp only [Act.put, List.setIfInBounds_toArray, List.set_cons_zero, List.set_cons_succ]
      refine wpAnyU.take (i := 5) [18] (v := ?_) rfl (by kernel_rfl) (by kernel_rfl) (by kernel_rfl) (by kernel_rfl) (fun _ _ _ h => h) (Or.inl ⟨by rfl, ?_⟩) (by assumption) ?_
      rotate_left
      · (intro w hSw; (try dsimp only at hSw); go_simp <;> (with_reducible rfl))
      try simp only [Act.put, List.setIfInBounds_toArray, List.set_cons_zero, List.set_cons_succ]
      refine wpAnyU.take (i := 6) [18] (v := ?_) rfl (by kernel_rfl) (by kernel_rfl) (by kernel_rfl) (by kernel_rfl) (fun _ _ _ h => h) (Or.inl ⟨by rfl, ?_⟩) (by assumption) ?_
      rotate_left
      · (intro w hSw; (try dsimp only at hSw); go_simp <;> (with_reducible rfl))
      try simp only [Act.put, List.setIfInBounds_toArray, List.set_cons_zero, List.set_cons_succ]
      refine wpAnyU.take (i := 7) [18] (v := ?_) rfl (by kernel_rfl) (by kernel_rfl) (by kernel_rfl) (by kernel_rfl) (fun _ _ _ h => h) (Or.inl ⟨by rfl, ?_⟩) (by assumption) ?_
      rotate_left
      · (intro w hSw; (try dsimp only at hSw); go_simp <;> (with_reducible rfl))
      try simp only [Act.put, List.setIfInBounds_toArray, List.set_cons_zero, List.set_cons_succ]
      refine wpAnyU.take (i := 8) [18] (v := ?_) rfl (by kernel_rfl) (by kernel_rfl) (by kernel_rfl) (by kernel_rfl) (fun _ _ _ h => h) (Or.inl ⟨by rfl, ?_⟩) (by assumption) ?_
      rotate_left
      · (intro w hSw; (try dsimp only at hSw); go_simp <;> (with_reducible rfl))
      try simp only [Act.put, List.setIfInBounds_toArray, List.set_cons_zero, List.set_cons_succ]
      refine wpAnyU.take (i := 9) [18] (v := ?_) rfl (by kernel_rfl) (by kernel_rfl) (by kernel_rfl) (by kernel_rfl) (fun _ _ _ h => h) (Or.inl ⟨by rfl, ?_⟩) (by assumption) ?_
      rotate_left
      · (intro w hSw; (try dsimp only at hSw); go_simp <;> (with_reducible rfl))
      try simp only [Act.put, List.setIfInBounds_toArray, List.set_cons_zero, List.set_cons_succ]
      refine wpAnyU.take (i := 10) [18] (v := ?_) rfl (by kernel_rfl) (by kernel_rfl) (by kernel_rfl) (by kernel_rfl) (fun _ _ _ h => h) (Or.inl ⟨by rfl, ?_⟩) (by assumption) ?_
      rotate_left
      · (intro w hSw; (try dsimp only at hSw); go_simp <;> (with_reducible rfl))
      try simp only [Act.put, List.setIfInBounds_toArray, List.set_cons_zero, List.set_cons_succ]
      refine wpAnyU.take (i := 12) [18] (v := ?_) rfl (by kernel_rfl) (by kernel_rfl) (by kernel_rfl) (by kernel_rfl) (fun _ _ _ h => h) (Or.inl ⟨by rfl, ?_⟩) (by assumption) ?_
      rotate_left
      · (intro w hSw; (try dsimp only at hSw); go_simp <;> (with_reducible rfl))
      try simp only [Act.put, List.setIfInBounds_toArray, List.set_cons_zero, List.set_cons_succ]
      refine wpAnyU.take (i := 13) [18] (v := ?_) rfl (by kernel_rfl) (by kernel_rfl) (by kernel_rfl) (by kernel_rfl) (fun _ _ _ h => h) (Or.inl ⟨by rfl, ?_⟩) (by assumption) ?_
      rotate_left
      · (intro w hSw; (try dsimp only at hSw); go_simp <;> (with_reducible rfl))
      try simp only [Act.put, List.setIfInBounds_toArray, List.set_cons_zero, List.set_cons_succ]
      refine wpAnyU.one (i := 11) (by kernel_rfl) rfl (fun K hK => ?_)
      go_simp
      obtain ⟨we, hwe⟩ : ∃ W, W = (wd.alloc (.cells #[] 3)).drew := ⟨_, rfl⟩
      rw [← hwe]
      have hbe : Below wd.heap.size wd we := by rw [hwe]; exact ((Below.refl _ _).alloc (Nat.le_refl _) _).drew
      have hse : wd.heap.size + 1 ≤ we.heap.size := by rw [hwe]; show _ ≤ (wd.alloc _).heap.size; simp
      have HE : Hid (we.ownsRow wd.heap.size 3 1 (.slice (some ⟨wd.heap.size, 0, none⟩) 0 0) 0 []) := Lib.hid (by rw [hwe]; exact ownsRow_heap (ownsRow_empty wd 3 1) rfl)
      have HBE := Lib.hid hbe
      have HNE := Lib.hid (HND.out.below hbe (by omega))
      have ex1 := cell_belowT hbe (show w.heap.size < wd.heap.size by omega) sx1
      have ey0 := cell_belowT hbe (show w.heap.size + 1 < wd.heap.size by omega) sy0
      have ey1 := cell_belowT hbe (show w.heap.size + 1 < wd.heap.size by omega) sy1
      have ed2 := cell_belowT hbe hqd hd2
      clear hwe hbe
      refine hK.out _ _ (fun _ => ?_) (fun hHeld => ?_)
      rotate_left
      replace hHeld := hHeld (by kernel_rfl)
      clear hK K
      try simp only [Act.put, List.setIfInBounds_toArray, List.set_cons_zero, List.set_cons_succ]
      rotate_right
      · exact ⟨ex1, ey0, ey1, ed2⟩
      refine wpAnyU.one (i := 14) (by kernel_rfl) rfl (fun K hK => ?_)
      refine step_appI elI rfl (.tmp 46) (.tmp 48) rfl we HE.out N need.length e0 need rfl rfl rfl HNE.out.r (by omega) (by omega) ?_
      intro A4 c4 w4 hown4 hb4 hg4
      rw [Nat.zero_add] at hown4 ⊢
      have HW4 := Lib.hid hown4
      have HB4 := Lib.hid (HBE.out.trans hb4)
      have hs4 := hb4.size
      have fx1 := cell_belowT hb4 (show w.heap.size < wd.heap.size by omega) ex1
      have fy0 := cell_belowT hb4 (show w.heap.size + 1 < wd.heap.size by omega) ey0
      have fy1 := cell_belowT hb4 (show w.heap.size + 1 < wd.heap.size by omega) ey1
      have fd2 := cell_belowT hb4 hqd ed2
      clear hown4 hb4 hg4 HBE HNE ex1 ey0 ey1 ed2
      refine hK.out _ _ (fun _ => ?_) (fun hHeld => ?_)
      rotate_left
      replace hHeld := hHeld (by kernel_rfl)
      clear hK K
      try simp only [Act.put, List.setIfInBounds_toArray, List.set_cons_zero, List.set_cons_succ]
      rotate_right
      · exact ⟨fx1, fy0, fy1, fd2⟩
      refine wpAnyU.take (i := 15) [18] (v := ?_) rfl (by kernel_rfl) (by kernel_rfl) (by kernel_rfl) (by kernel_rfl) (fun _ _ _ h => h) (Or.inl ⟨by rfl, ?_⟩) (by assumption) ?_
      rotate_left
      · (intro w hSw; (try dsimp only at hSw); go_simp <;> (with_reducible rfl))
      try simp only [Act.put, List.setIfInBounds_toArray, List.set_cons_zero, List.set_cons_succ]
      refine wpAnyU.one (i := 16) (by kernel_rfl) rfl (fun K hK => ?_)
      go_simp
      refine hK.out _ _ (fun _ => ?_) (fun hHeld => ?_)
      rotate_left
      replace hHeld := hHeld (by kernel_rfl)
      clear hK K
      try simp only [Act.put, List.setIfInBounds_toArray, List.set_cons_zero, List.set_cons_succ]
      rotate_right
      · have hb6 : Below w4.heap.size w4 (w4.alloc (.cells #[.int .i64 id, .slice A4 need.length c4] 62)) := alloc_belowC _ _
        exact ⟨cell_belowT hb6 (by omega) fx1, cell_belowT hb6 (by omega) fy0, cell_belowT hb6 (by omega) fy1, cell_belowT hb6 (by omega) fd2⟩
      obtain ⟨A8, c8, he8, -, hE8⟩ := IntsE.of_own (e := 3) (ys := need) (by simpa using HW4.out)
      simp only [Value.slice.injEq, true_and] at he8
      obtain ⟨rfl, rfl⟩ := he8
      have HE8 := Lib.hid hE8
      have HU4 := Lib.hid (HUD.out.below HB4.out)
      have hum := List.mem_of_getElem? HUS.out
      have HR4 := Lib.hid (HU4.out.each uu hum).1
      clear hE8 hum
      refine wpAnyU.one (i := 17) (by kernel_rfl) rfl (fun K hK => ?_)
      refine step_app1 elT rfl (.tmp 43) (.tmp 51) rfl w4 _ HR4.out [.int .i64 id, .slice A4 need.length c4] rfl rfl ⟨rfl, rfl, rfl, rfl⟩ rfl (two_cellsT _ _ _ _) (by omega) (by simp only [maxLen]; omega) (by omega) ?_
      intro q9 d9 w9 hown9 hb9 hg9 hsz9 hq9
      have hX4 := HXD.out.below HB4.out (show w.heap.size < wd.heap.size by omega)
      have hY4 := HYD.out.below HB4.out (show w.heap.size + 1 < wd.heap.size by omega)
      have hZ4 := HZD.out.below HB4.out (show w.heap.size + 1 + 1 < wd.heap.size by omega)
      have hX9 := hX4.grown hg9 (own_ne HR4.out hX4 (by decide))
      have hY9 := hY4.grown hg9 HBLK.out
      have hZ9 := hZ4.grown hg9 (own_ne HR4.out hZ4 (by decide))
      have hR9 := ownsRow_grown HU4.out.row hg9 (own_ne2 HU4.out.row HR4.out (by decide))
      have gx0 := hX9.cell (i := 0) rfl
      have gx1 := hX9.cell (i := 1) rfl
      have gy0 := hY9.cell (i := 0) rfl
      have gy1 := hY9.cell (i := 1) rfl
      have gf2 := hR9.frozenAt (k * 2 + 1)
      have gd2 : w9.cell? ⟨q, k * 2 + 1, none⟩ = some (.slice uu.a uu.ts.length uu.c) := by
        rw [hR9.cellAt _ (by have := HLS.out; omega)]; exact (urowT_at HUS.out).2
      clear fx1 fy0 fy1 fd2 sx1 sy0 sy1 hd2 hX4 hY4 hZ4
      have hbd4 := HB4.out.size
      have hI4 : IntsE 3 w4 base w4.heap.size A4 c4 need := HE8.out.mono (by omega) (Nat.le_refl _)
      have hap := HU4.out.append (t := ⟨id, A4, c4, need⟩) HUS.out hI4 hown9 hg9 (by omega) hq9
      have hcp := HCD.out.put (m := 1) (v := ⟨uu.op, some ⟨q9, 0, none⟩, d9, uu.ts ++ [⟨id, A4, c4, need⟩]⟩) HUS.out (by simp) (fun t ht => by
        rcases List.mem_append.1 ht with h1 | h1
        · exact HCD.out.good uu (List.mem_of_getElem? HUS.out) t h1
        · simp only [List.mem_singleton] at h1; subst h1; exact HGN.out)
      have hA9 : IntsE 3 w9 base w9.heap.size A c room := ((HAD.out.step HB4.out).grown hg9 HR4.out (by decide)).mono (Nat.le_refl _) (by omega)
      have hA10 : IntsE 3 (w9.setCell ⟨q, k * 2 + 1, none⟩ (.slice (some ⟨q9, 0, none⟩) (uu.ts.length + 1) d9)) base (w9.setCell ⟨q, k * 2 + 1, none⟩ (.slice (some ⟨q9, 0, none⟩) (uu.ts.length + 1) d9)).heap.size A c room := (hA9.set_ hR9 (by decide) _).mono (Nat.le_refl _) (by simp [World.setCell])
      obtain ⟨wg, hwg⟩ : ∃ W, W = w9.setCell ⟨q, k * 2 + 1, none⟩ (.slice (some ⟨q9, 0, none⟩) (uu.ts.length + 1) d9) := ⟨_, rfl⟩
      rw [← hwg] at hap hA10
      have hog : Only q (q + 1) w9 wg := by rw [hwg]; exact (Only.refl _ _ _).setCell (p := ⟨q, k * 2 + 1, none⟩) (Nat.le_refl _) (by simp) _
      have hBg : Below base w wg := (HBD.out.trans (HB4.out.mono (by omega))).trans (hb9.trans (hog.below hq0 (by omega)))
      have hXg := hX9.only hog (.inr hq1)
      have hZg := hZ9.only hog (.inr (by omega))
      have HCLG : Hid (Clu wg base (M + 1) (.agg #[.slice A room.length c, .slice (some ⟨q, 0, none⟩) us.length d])) := Lib.hid ⟨A, c, _, d, room, _, by rw [List.length_set, List.length_set], hA10, hap, hcp⟩
      have HBG := Lib.hid hBg
      have HXG := Lib.hid hXg
      have HZG := Lib.hid hZg
      have HWG := Lib.hid hwg
      clear hap hA10 hog hBg hXg hZg hwg hA9 hcp hI4 hZ9 hX9 hY9 hR9 hown9 hb9 hg9 hq9
      refine hK.out _ _ (fun _ => ?_) (fun hHeld => ?_)
      rotate_left
      replace hHeld := hHeld (by kernel_rfl)
      clear hK K
      try simp only [Act.put, List.setIfInBounds_toArray, List.set_cons_zero, List.set_cons_succ]
      rotate_right
      · exact ⟨gx1, gy0, gy1, gd2⟩
      refine wpAnyU.one (i := 18) (by kernel_rfl) rfl (fun K hK => ?_)
      go_simp
      refine hK.out _ _ (fun h => absurd (h.symm.trans (by kernel_rfl)) Bool.false_ne_true) (fun _ => ?_)
      clear hK K
      try simp only [Act.put, List.setIfInBounds_toArray, List.set_cons_zero, List.set_cons_succ]
      refine wpAnyU.one (i := 19) (by kernel_rfl) rfl (fun K hK => ?_)
      go_simp
      refine hK.out _ _ (fun h => absurd (h.symm.trans (by kernel_rfl)) Bool.false_ne_true) (fun _ => ?_)
      clear hK K
      try simp only [Act.put, List.setIfInBounds_toArray, List.set_cons_zero, List.set_cons_succ]
      refine wpAnyU.one (i := 20) (by kernel_rfl) rfl (fun K hK => ?_)
      go_simp
      refine hK.out _ _ (fun h => absurd (h.symm.trans (by kernel_rfl)) Bool.false_ne_true) (fun _ => ?_)
      clear hK K
      try simp only [Act.put, List.setIfInBounds_toArray, List.set_cons_zero, List.set_cons_succ]
      refine wpAnyU.done (by kernel_rfl) ?_ _
      rw [← HWG.out]
      have m0 := HXG.out.cell (i := 0) rfl
      have m1 := HXG.out.cell (i := 1) rfl
      have n0 := HZG.out.cell (i := 0) rfl
      have n1 := HZG.out.cell (i := 1) rfl
      have nf0 := HZG.out.frozen 0
      have nf1 := HZG.out.frozen 1
      go_wp2_with fail
      obtain ⟨wf, hwf, r0, r1, hcl, hbf⟩ := clu_ret (w := w) (base := base) (N := M + 1) HZG.out rfl HCLG.out HBG.out (by omega)
      rw [← hwf]
      refine bodyPost_ret (v := .tuple #[.agg #[.slice A room.length c, .slice (some ⟨q, 0, none⟩) us.length d], .int .i64 0]) (by simp [results, Try.results57, go_sem, r0, r1]) rfl ?_
      exact ⟨_, 0, rfl, hcl, hbf⟩
end Go.Proofs.Ytcmampicgdobcaa
