/- The generator of a task: a number and three ints in new memory. No condition but on sizes. -/
import Derived.Test.YtcmampicgdobcaaDv
import Derived.Test.YtcmampicgdobcaaBk
import Derived.Deep.RegionHeld3
import Derived.WalkSpells
namespace Go.Proofs.Ytcmampicgdobcaa
open Go.RowKit
theorem le_le {a b : Nat} (h : a = b) : a ≤ b ∧ b ≤ a := ⟨Nat.le_of_eq h, Nat.le_of_eq h.symm⟩
/-- what a generator of one task leaves -/
def DrewT (w : World) (g p : Nat) (id : Int) (e : Ending) (w' : World) : Prop :=
  ∃ A c, ∃ zs : List Int, ∃ p', e = .returned (.agg #[.int .i64 id, .slice A zs.length c]) ∧ Ints w' w.heap.size w'.heap.size A c zs ∧ zs.length = 3 ∧ (∀ z, z ∈ zs → -1 ≤ z ∧ z ≤ 100) ∧ Rd w' g p' ∧ p ≤ p' ∧ p' ≤ p + 6 ∧ Only g (g + 1) w w'
/-- the same, its block known whole -/
def DrewB (w : World) (g p : Nat) (id : Int) (e : Ending) (w' : World) : Prop :=
  ∃ b, ∃ x y z : Int, ∃ p', e = .returned (.agg #[.int .i64 id, .slice (some ⟨b, 0, none⟩) 3 3]) ∧ Blk w' b 3 [.int .i64 x, .int .i64 y, .int .i64 z] ∧ w.heap.size ≤ b ∧ b < w'.heap.size ∧
    (0 ≤ x ∧ x ≤ 100) ∧ (0 ≤ y ∧ y ≤ 100) ∧ (0 ≤ z ∧ z ≤ 100) ∧ Rd w' g p' ∧ p ≤ p' ∧ p' ≤ p + 6 ∧ Only g (g + 1) w w'
theorem Ints.of_blk {w : World} {b : Nat} {e : TypeId} {zs : List Int} (h : Blk w b e (zs.map (Value.int .i64))) (hl : zs.length ≤ maxLen) : Ints w b (b + 1) (some ⟨b, 0, none⟩) zs.length zs := by
  refine ⟨Nat.le_refl _, hl, ?_⟩
  by_cases h0 : zs.length = 0
  · exact .inl (List.eq_nil_of_length_eq_zero h0)
  · refine .inr ⟨b, 0, rfl, Nat.le_refl _, by omega, fun j y hj => ?_⟩
    have hc := h.cell (i := j) (v := .int .i64 y) (by rw [List.getElem?_map, hj]; rfl)
    exact ⟨by simpa using hc, by simpa using h.frozen j⟩
theorem DrewB.t {w w' : World} {g p : Nat} {id : Int} {e : Ending} (h : DrewB w g p id e w') : DrewT w g p id e w' := by
  obtain ⟨b, x, y, z, p', rfl, hB, h1, h2, hx, hy, hz, hR, hp1, hp2, hO⟩ := h
  have hI := Ints.of_blk (zs := [x, y, z]) hB (by simp [maxLen])
  exact ⟨_, 3, [x, y, z], p', rfl, hI.mono h1 (by omega), rfl, by intro u hu; simp at hu; omega, hR, hp1, hp2, hO⟩
theorem own_lit3 (w : World) (e : TypeId) (a b c : Int) : (w.alloc (.cells #[.int .i64 a, .int .i64 b, .int .i64 c] e)).ownsRow w.heap.size e 1 (.slice (some ⟨w.heap.size, 0, none⟩) 3 3) 3 (([a, b, c] : List Int).map (Value.int .i64)) :=
  World.ownsRow_lit w #[.int .i64 a, .int .i64 b, .int .i64 c] 3 (Nat.le_refl _) (by simp [maxLen]) rfl
theorem keepS {g L i : Nat} {a b : World} {v : Value} (h : Only g (g + 1) a b) (hg : g < L) (hL : L < a.heap.size) (hc : a.cell? ⟨L, i, none⟩ = some v) : b.cell? ⟨L, i, none⟩ = some v :=
  (World.cell?_of_block (a := ⟨L, i, none⟩) (h.block L hL (.inr hg))).trans hc
theorem lit3_at (x y z : Int) {i : Nat} (hi : i < 3) : ∃ v, ([.int .i64 x, .int .i64 y, .int .i64 z] : List Value)[i]? = some v := ⟨_, List.getElem?_eq_getElem (by simpa using hi)⟩
theorem lit3_set (x y z u : Int) {i : Nat} (hi : i < 3) (hx : 0 ≤ x ∧ x ≤ 100) (hy : 0 ≤ y ∧ y ≤ 100) (hz : 0 ≤ z ∧ z ≤ 100) (hu : 0 ≤ u ∧ u ≤ 100) :
    ∃ x' y' z' : Int, ([.int .i64 x, .int .i64 y, .int .i64 z] : List Value).set i (.int .i64 u) = [.int .i64 x', .int .i64 y', .int .i64 z'] ∧ (0 ≤ x' ∧ x' ≤ 100) ∧ (0 ≤ y' ∧ y' ≤ 100) ∧ (0 ≤ z' ∧ z' ≤ 100) := by
  have : i = 0 ∨ i = 1 ∨ i = 2 := by omega
  rcases this with rfl | rfl | rfl
  · exact ⟨u, y, z, rfl, hu, hy, hz⟩
  · exact ⟨x, u, z, rfl, hx, hu, hz⟩
  · exact ⟨x, y, u, rfl, hx, hy, hu⟩
theorem l91TaskB_any (g p : Nat) (id : Int) (w : World) (hR : Rd w g p) (hp : p ≤ 900000) :
    Calls Try.prog 44 #[.pointer (some ⟨g, 0, none⟩), .int .i64 id] w (DrewB w g p id) := by
  have HG := Lib.hid hR.lt
  have HR := Lib.hid hR; clear hR
  have hg0 : g < w.heap.size := HG.out
  go_enter Try.func44, Try.ntmps44
  go_wp2_with fail
  obtain ⟨W0, hW0⟩ : ∃ W, W = w.alloc (.cells #[.int .i64 0, .slice none 0 0] 62) := ⟨_, rfl⟩
  rw [← hW0]
  have HB0 : Hid (Blk W0 w.heap.size 62 [.int .i64 0, .slice none 0 0]) := Lib.hid (by rw [hW0]; exact Blk.new w _ _)
  have hb0 : Below w.heap.size w W0 := by rw [hW0]; exact (Below.refl _ _).alloc (Nat.le_refl _) _
  obtain ⟨ha0, hb0'⟩ := le_le (show W0.heap.size = w.heap.size + 1 by rw [hW0]; simp)
  have HR0 := Lib.hid (HR.out.below hb0 hg0)
  have HO0 : Hid (Only g (g + 1) w W0) := Lib.hid (Only.of_below hb0)
  clear hW0 hb0
  refine (pick_any g p 6 W0 HR0.out (by omega) (by omega)).mono ?_; rintro e w1 ⟨x, rfl, hx0, hx1, hR1, hO1, hs1⟩
  obtain ⟨ha1, hb1⟩ := le_le hs1; clear hs1
  have HR1 := Lib.hid hR1; clear hR1
  have HB1 := Lib.hid (HB0.out.only hO1 (.inr hg0))
  have HO1 := Lib.hid (HO0.out.trans hO1); clear hO1
  go_wp2_with fail
  refine (pick_any g (p + 1) 6 w1 HR1.out (by omega) (by omega)).mono ?_; rintro e w2 ⟨y, rfl, hy0, hy1, hR2, hO2, hs2⟩
  obtain ⟨ha2, hb2⟩ := le_le hs2; clear hs2
  have HR2 := Lib.hid hR2; clear hR2
  have HB2 := Lib.hid (HB1.out.only hO2 (.inr hg0))
  have HO2 := Lib.hid (HO1.out.trans hO2); clear hO2
  go_wp2_with fail
  refine (pick_any g (p + 1 + 1) 6 w2 HR2.out (by omega) (by omega)).mono ?_; rintro e w3 ⟨z, rfl, hz0, hz1, hR3, hO3, hs3⟩
  obtain ⟨ha3, hb3⟩ := le_le hs3; clear hs3
  have HR3 := Lib.hid hR3; clear hR3
  have HB3 := Lib.hid (HB2.out.only hO3 (.inr hg0))
  have HO3 := Lib.hid (HO2.out.trans hO3); clear hO3
  go_wp2_with fail
  obtain ⟨W4, hW4⟩ : ∃ W, W = (w3.alloc (.cells #[.int .i64 x, .int .i64 y, .int .i64 z] 3)).alloc (.cells #[.int .i64 id, .slice (some ⟨w3.heap.size, 0, none⟩) 3 3] 62) := ⟨_, rfl⟩
  rw [← hW4]
  have hb4 : Below w3.heap.size w3 W4 := by rw [hW4]; exact ((Below.refl _ _).alloc (Nat.le_refl _) _).alloc (by simp) _
  have HB4 := Lib.hid (HB3.out.step hb4)
  have HX4 : Hid (Blk W4 (w3.heap.size + 1) 62 [.int .i64 id, .slice (some ⟨w3.heap.size, 0, none⟩) 3 3]) := Lib.hid (by rw [hW4]; simpa using Blk.new (w3.alloc (.cells #[.int .i64 x, .int .i64 y, .int .i64 z] 3)) 62 [.int .i64 id, .slice (some ⟨w3.heap.size, 0, none⟩) 3 3])
  have HW4 : Hid (Blk W4 w3.heap.size 3 [.int .i64 x, .int .i64 y, .int .i64 z]) := Lib.hid (by rw [hW4]; exact (Blk.new w3 _ _).alloc _)
  have HR4 := Lib.hid (HR3.out.below hb4 (by omega))
  have HO4 : Hid (Only g (g + 1) w W4) := Lib.hid (HO3.out.then_below (hb4.mono (by omega)))
  obtain ⟨ha4, hb4'⟩ := le_le (show W4.heap.size = w3.heap.size + 2 by rw [hW4]; simp)
  clear hW4 hb4
  refine (pick_any g (p + 1 + 1 + 1) 3 W4 HR4.out (by omega) (by omega)).mono ?_; rintro e w5 ⟨q, rfl, hq0, hq1, hR5, hO5, hs5⟩
  obtain ⟨ha5, hb5⟩ := le_le hs5; clear hs5
  have HR5 := Lib.hid hR5; clear hR5
  have HB5 := Lib.hid (HB4.out.only hO5 (.inr hg0))
  have HX5 := Lib.hid (HX4.out.only hO5 (.inr (by omega)))
  have HW5 := Lib.hid (HW4.out.only hO5 (.inr (by omega)))
  have HO5 := Lib.hid (HO4.out.trans hO5); clear hO5
  have hxb := HX5.out.cell (i := 0) rfl
  have hxc := HX5.out.cell (i := 1) rfl
  have hrb := HB5.out.cell (i := 0) rfl
  have hrc := HB5.out.cell (i := 1) rfl
  have hfb := HB5.out.frozen 0
  have hfc := HB5.out.frozen 1
  have hne : w.heap.size ≠ w3.heap.size + 1 := by omega
  by_cases e0 : q = 0
  · subst e0
    have hL5 : w3.heap.size + 1 < w5.heap.size := by omega
    have hgL : g < w3.heap.size + 1 := by omega
    have HRd : Hid (Rd w5.drew g (p + 1 + 1 + 1 + 1)) := HR5
    have HWd : Hid (Blk w5.drew w3.heap.size 3 [.int .i64 x, .int .i64 y, .int .i64 z]) := HW5
    have HBd : Hid (Blk w5.drew w.heap.size 62 [.int .i64 0, .slice none 0 0]) := HB5
    have HXd : Hid (Blk w5.drew (w3.heap.size + 1) 62 [.int .i64 id, .slice (some ⟨w3.heap.size, 0, none⟩) 3 3]) := HX5
    have HOd : Hid (Only g (g + 1) w w5.drew) := Lib.hid (HO5.out.then_below (Below.refl _ _).drew)
    go_wp2_with fail
    go_region_held3 (fun w' => w'.cell? ⟨w3.heap.size + 1, 1, none⟩ = some (.slice (some ⟨w3.heap.size, 0, none⟩) 3 3))
      (first | go_keep | exact hk6 | exact hk7)
      (first
        | (go_at_call 17; (with_reducible refine (pick_any g (p + 1 + 1 + 1 + 1) 3 _ HRd.out (by omega) (by omega)).mono ?_); rintro e w6 ⟨r, rfl, hr0, hr1, hR6, hO6, hs6⟩; obtain ⟨i, rfl⟩ := Int.eq_ofNat_of_zero_le hr0; have hL6 : w3.heap.size + 1 < w6.heap.size := (show w6.heap.size = w5.heap.size from hs6) ▸ hL5; have hz6 : w6.heap.size = w5.heap.size := hs6; obtain ⟨ha6, hb6⟩ := le_le hz6; clear hz6 hs6; have HR6 := Lib.hid hR6; clear hR6; have hk6 := keepS hO6 hgL hL5 hxc; have HW6 := Lib.hid (HWd.out.only hO6 (.inr (by omega))); have HB6 := Lib.hid (HBd.out.only hO6 (.inr hg0)); have HX6 := Lib.hid (HXd.out.only hO6 (.inr (by omega))); have HO6 := Lib.hid (HOd.out.trans hO6); clear hO6)
        | (go_at_call 17; (with_reducible refine (pick_any g (p + 1 + 1 + 1 + 1 + 1) 4 _ HR6.out (by omega) (by omega)).mono ?_); rintro e w7 ⟨s, rfl, hS0, hS1, hR7, hO7, hs7⟩; obtain ⟨ha7, hb7⟩ := le_le hs7; clear hs7; have HR7 := Lib.hid hR7; clear hR7; have hk7 := keepS hO7 hgL hL6 hk6; have HW7 := Lib.hid (HW6.out.only hO7 (.inr (by omega))); have HB7 := Lib.hid (HB6.out.only hO7 (.inr hg0)); have HX7 := Lib.hid (HX6.out.only hO7 (.inr (by omega))); have HO7 := Lib.hid (HO6.out.trans hO7); clear hO7; have hsum : IntKind.i64.wrap (4 + s) = 4 + s := wrap_small (by omega); have hi3 : i < 3 := (by omega); obtain ⟨u, hu⟩ := lit3_at x y z hi3; have hc0 := HW7.out.cell hu; have hf0 := HW7.out.frozen i))
    obtain ⟨w8, hw8⟩ : ∃ W, W = w7.setCell ⟨w3.heap.size, i, none⟩ (.int .i64 (4 + s)) := ⟨_, rfl⟩
    rw [← hw8]
    obtain ⟨x', y', z', hset, hx', hy', hz'⟩ := lit3_set x y z (4 + s) hi3 ⟨by omega, by omega⟩ ⟨by omega, by omega⟩ ⟨by omega, by omega⟩ ⟨by omega, by omega⟩
    have HW8 : Hid (Blk w8 w3.heap.size 3 [.int .i64 x', .int .i64 y', .int .i64 z']) := Lib.hid (by rw [hw8, ← hset]; exact HW7.out.set_ i (.int .i64 (4 + s)))
    clear hset
    have HB8 := Lib.hid (show Blk w8 w.heap.size 62 [.int .i64 0, .slice none 0 0] by rw [hw8]; exact HB7.out.far (by simp; omega) _)
    have HX8 := Lib.hid (show Blk w8 (w3.heap.size + 1) 62 [.int .i64 id, .slice (some ⟨w3.heap.size, 0, none⟩) 3 3] by rw [hw8]; exact HX7.out.far (by simp) _)
    have hb8 : Below w3.heap.size w7 w8 := by rw [hw8]; exact (Below.refl _ _).setCell (p := ⟨w3.heap.size, i, none⟩) (Nat.le_refl _) _
    have HR8 := Lib.hid (HR7.out.below hb8 (by omega))
    have HO8 := Lib.hid (HO7.out.then_below (hb8.mono (by omega)))
    obtain ⟨ha8, hb8'⟩ := le_le (show w8.heap.size = w7.heap.size by rw [hw8]; simp [World.setCell])
    clear hw8 hb8 hc0 hf0
    have hxb := HX8.out.cell (i := 0) rfl
    have hxc := HX8.out.cell (i := 1) rfl
    have hrb := HB8.out.cell (i := 0) rfl
    have hrc := HB8.out.cell (i := 1) rfl
    have hfb := HB8.out.frozen 0
    have hfc := HB8.out.frozen 1
    go_wp2_with fail
    obtain ⟨Wf, hWf⟩ : ∃ W, W = (w8.setCell ⟨w.heap.size, 0, none⟩ (.int .i64 id)).setCell ⟨w.heap.size, 1, none⟩ (.slice (some ⟨w3.heap.size, 0, none⟩) 3 3) := ⟨_, rfl⟩
    rw [← hWf]
    have hBf : Blk Wf w.heap.size 62 [.int .i64 id, .slice (some ⟨w3.heap.size, 0, none⟩) 3 3] := by rw [hWf]; exact (HB8.out.set_ 0 (.int .i64 id)).set_ 1 (.slice (some ⟨w3.heap.size, 0, none⟩) 3 3)
    have hcf0 := hBf.cell (i := 0) rfl
    have hcf1 := hBf.cell (i := 1) rfl
    refine bodyPost_ret (v := .agg #[.int .i64 id, .slice (some ⟨w3.heap.size, 0, none⟩) 3 3]) (by simp [results, Try.results44, go_sem, hcf0, hcf1]) rfl ?_
    have hbw : Below (w.heap.size) w8 Wf := by rw [hWf]; exact ((Below.refl _ _).setCell (p := ⟨w.heap.size, 0, none⟩) (Nat.le_refl _) _).setCell (p := ⟨w.heap.size, 1, none⟩) (Nat.le_refl _) _
    have hsf : Wf.heap.size = w8.heap.size := by rw [hWf]; simp [World.setCell]
    have hoo : Only w.heap.size (w.heap.size + 1) w8 Wf := by rw [hWf]; exact ((Only.refl _ _ _).setCell (p := ⟨w.heap.size, 0, none⟩) (Nat.le_refl _) (by simp) _).setCell (p := ⟨w.heap.size, 1, none⟩) (Nat.le_refl _) (by simp) _
    exact ⟨w3.heap.size, x', y', z', _, rfl, HW8.out.only hoo (.inr (by omega)), by omega, by omega, hx', hy', hz', HR8.out.below hbw hg0, by omega, by omega, HO8.out.then_below hbw⟩
  · have hq0' : (q == 0) = false := by simp; omega
    go_wp2_with fail
    obtain ⟨Wf, hWf⟩ : ∃ W, W = (w5.setCell ⟨w.heap.size, 0, none⟩ (.int .i64 id)).setCell ⟨w.heap.size, 1, none⟩ (.slice (some ⟨w3.heap.size, 0, none⟩) 3 3) := ⟨_, rfl⟩
    rw [← hWf]
    have hBf : Blk Wf w.heap.size 62 [.int .i64 id, .slice (some ⟨w3.heap.size, 0, none⟩) 3 3] := by rw [hWf]; exact (HB5.out.set_ 0 (.int .i64 id)).set_ 1 (.slice (some ⟨w3.heap.size, 0, none⟩) 3 3)
    have hcf0 := hBf.cell (i := 0) rfl
    have hcf1 := hBf.cell (i := 1) rfl
    refine bodyPost_ret (v := .agg #[.int .i64 id, .slice (some ⟨w3.heap.size, 0, none⟩) 3 3]) (by simp [results, Try.results44, go_sem, hcf0, hcf1]) rfl ?_
    have hbw : Below (w.heap.size) w5 Wf := by rw [hWf]; exact ((Below.refl _ _).setCell (p := ⟨w.heap.size, 0, none⟩) (Nat.le_refl _) _).setCell (p := ⟨w.heap.size, 1, none⟩) (Nat.le_refl _) _
    have hsf : Wf.heap.size = w5.heap.size := by rw [hWf]; simp [World.setCell]
    have hoo : Only w.heap.size (w.heap.size + 1) w5 Wf := by rw [hWf]; exact ((Only.refl _ _ _).setCell (p := ⟨w.heap.size, 0, none⟩) (Nat.le_refl _) (by simp) _).setCell (p := ⟨w.heap.size, 1, none⟩) (Nat.le_refl _) (by simp) _
    exact ⟨w3.heap.size, x, y, z, _, rfl, HW5.out.only hoo (.inr (by omega)), by omega, by omega, ⟨by omega, by omega⟩, ⟨by omega, by omega⟩, ⟨by omega, by omega⟩, HR5.out.below hbw hg0, by omega, by omega, HO5.out.then_below hbw⟩
theorem l91Task_any (g p : Nat) (id : Int) (w : World) (hR : Rd w g p) (hp : p ≤ 900000) :
    Calls Try.prog 44 #[.pointer (some ⟨g, 0, none⟩), .int .i64 id] w (DrewT w g p id) :=
  (l91TaskB_any g p id w hR hp).mono fun _ _ h => h.t
end Go.Proofs.Ytcmampicgdobcaa
