/- ClusterValid returns some bool; copies of clusters. No condition but on sizes. -/
import Derived.Test.YtcmampicgdobcaaCx
import Derived.StillTailTactics
namespace Go.Proofs.Ytcmampicgdobcaa
open Go.RowKit
theorem bflat_ubin_mem {us : List UniV} {t : TaskV} (h : t ∈ bflat (us.map ubin)) : ∃ u, u ∈ us ∧ t ∈ u.ts := by
  obtain ⟨b, hb, ht⟩ := List.mem_flatMap.1 h
  obtain ⟨u, hu, rfl⟩ := List.mem_map.1 hb
  exact ⟨u, hu, ht⟩
/-- some bool is returned, only new memory made -/
def RetB (w : World) (e : Ending) (w' : World) : Prop := ∃ v : Bool, e = .returned (.bool v) ∧ Below w.heap.size w w'
set_option maxHeartbeats 1000000 in
theorem clusterValidS_some (A B : Option Addr) (c d l1 h1 lo hi : Nat) (room : List Int) (us : List UniV) (w : World) (hA : Ints w l1 h1 A c room) (hr : room.length ≤ 1000) (hU : UniT w lo hi B d us) (hn : us.length ≤ 100) (hf : (bflat (us.map ubin)).length ≤ 1000)
    (hg : ∀ t, t ∈ bflat (us.map ubin) → t.need.length ≤ 1000) (g1 : h1 ≤ w.heap.size) (g2 : hi ≤ w.heap.size) :
    Calls Try.prog 39 #[.agg #[.slice A room.length c, .slice B us.length d]] w (RetB w) := by
  obtain ⟨w0, hw0⟩ : ∃ W, W = w.alloc (.cells #[.slice A room.length c, .slice B us.length d] 28) := ⟨_, rfl⟩
  have HW0 := Lib.hid hw0
  have hb0 : Below w.heap.size w w0 := by rw [hw0]; exact alloc_belowC w _
  have hs0 : w.heap.size + 1 ≤ w0.heap.size := by rw [hw0]; simp
  have HX : Hid (Blk w0 w.heap.size 28 [.slice A room.length c, .slice B us.length d]) := Lib.hid (by rw [hw0]; exact Blk.new w _ [.slice A room.length c, .slice B us.length d])
  have HA := Lib.hid (hA.below hb0 g1)
  have HU := Lib.hid (hU.below hb0 g2)
  have HB := Lib.hid hb0
  have hx0 := HX.out.cell (i := 0) rfl
  have hx1 := HX.out.cell (i := 1) rfl
  have HG := Lib.hid hg
  clear hw0 hb0 hA hU hg
  go_enter Try.func39, Try.ntmps39
  go_wp2_with fail
  rw [← HW0.out]
  go_loop [3] (fun i => ∃ k : Nat, k ≤ us.length ∧ i = .int .i64 k) (fun i => us.length - (intOf i).toNat)
  case atStart => exact ⟨0, by omega, rfl⟩
  case round =>
    obtain ⟨k, hk, rfl⟩ := hrel
    by_cases hlt : k < us.length
    · have hklt : (k : Int) < us.length := by omega
      obtain ⟨b1, off1, u, rfl, hu, hc1, hc2, _, hbh, _⟩ := HU.out.at_ hlt
      cases hop : u.op
      · rw [hop] at hc1
        by_cases h0 : (0 : Int) < (u.ts.length : Int)
        · go_wp2_with fail
          go_ret
          exact ⟨false, by simp, HB.out⟩
        · go_wp2_with fail
          exact ⟨⟨k + 1, by omega, by go_num⟩, by simp [intOf]; omega⟩
      · rw [hop] at hc1
        go_wp2_with fail
        exact ⟨⟨k + 1, by omega, by go_num⟩, by simp [intOf]; omega⟩
    · have hkn : ¬ ((k : Int) < us.length) := by omega
      clear hk hlt
      cases hin : inB (us.length : Int) 1 10
      · have Q1 := fun W => (l6In_any (us.length : Int) 1 10 W).mono (R' := fun e w' => e = .returned (.bool (inB (us.length : Int) 1 10)) ∧ w' = W) (fun _ _ h => ⟨h.1, h.2.symm⟩)
        rw [hin] at Q1
        have HQ1 := Lib.hid Q1
        clear hin Q1
        go_wp2_with fail
        go_quiet ((go_at_call 22; exact Calls.quiet_of_same (HQ1.out _)))
        go_wp2_with fail
        go_ret
        exact ⟨false, by simp, Below.drewN HB.out _⟩
      · have HIN := Lib.hid hin
        clear hin
        have HC := Lib.hid (l21Bins_any A B room.length c d _ _ us w0.drew (HU.out.below (Below.refl _ _).drew (by omega)) (by omega) (by show hi ≤ w0.heap.size; omega))
        have hs0d : w.heap.size + 1 ≤ w0.drew.heap.size := hs0
        have HAd := Lib.hid (HA.out.below (B := w0.heap.size) (Below.refl _ _).drew (by omega))
        have HXd : Hid (Blk w0.drew w.heap.size 28 [.slice A room.length c, .slice B us.length d]) := Lib.hid HX.out
        have HBd := Lib.hid HB.out.drew
        go_wp2_with fail
        go_region_held3 (fun w' => w'.cell? ⟨w.heap.size, 0, none⟩ = some (.slice A room.length c) ∧ w'.cell? ⟨w.heap.size, 1, none⟩ = some (.slice B us.length d))
          (go_keep)
          (first
            | (go_at_call 22; (with_reducible refine (l6In_any (us.length : Int) 1 10 _).mono ?_); rintro e w' ⟨rfl, rfl⟩; rw [HIN.out])
            | (go_at_call 52; (with_reducible refine HC.out.mono ?_); rintro e w5 ⟨q5, d5, rfl, hB5, hb5⟩; have HB5 := Lib.hid hB5; have HBB := Lib.hid (HBd.out.trans (hb5.mono (by omega))); have HA5 := Lib.hid (HAd.out.below hb5 (show h1 ≤ w0.drew.heap.size by omega)); have hs5 := hb5.size; have HX5 := Lib.hid (HXd.out.below hb5 (show w.heap.size < w0.drew.heap.size by omega)); have y0 := HX5.out.cell (i := 0) rfl; have y1 := HX5.out.cell (i := 1) rfl; clear hB5 hb5)
            | (go_at_call 51; have h9 := binsValidS_any A c l1 h1 room (some ⟨q5, 0, none⟩) d5 0 w5.heap.size (us.map ubin) w5 HA5.out (by omega) HB5.out (by rw [List.length_map]; omega) (by omega) (fun t ht => by have := HG.out t ht; omega) (by omega) (Nat.le_refl _); rw [List.length_map] at h9; refine h9.mono ?_; rintro e w6 ⟨rfl, hb6⟩; have HBF := Lib.hid (HBB.out.trans (hb6.mono (by omega))); have HX6 := Lib.hid (HX5.out.below hb6 (show w.heap.size < w5.heap.size by omega)); have z0 := HX6.out.cell (i := 0) rfl; have z1 := HX6.out.cell (i := 1) rfl; clear hb6 h9))
        go_wp2_with fail
        go_ret
        exact ⟨_, rfl, HBF.out⟩
end Go.Proofs.Ytcmampicgdobcaa
