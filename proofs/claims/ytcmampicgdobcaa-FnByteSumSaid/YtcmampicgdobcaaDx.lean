/- The generators of rooms and of numbers of tasks. No condition but on sizes. -/
import Derived.Test.YtcmampicgdobcaaDu
import Derived.Test.YtcmampicgdobcaaVb
namespace Go.Proofs.Ytcmampicgdobcaa
open Go.RowKit
/-- three ints in new memory -/
def Drew3 (w : World) (g p : Nat) (e : Ending) (w' : World) : Prop :=
  ∃ b, ∃ x y z : Int, ∃ p', e = .returned (.slice (some ⟨b, 0, none⟩) 3 3) ∧ Ints w' w.heap.size w'.heap.size (some ⟨b, 0, none⟩) 3 [x, y, z] ∧
    (0 ≤ x ∧ x ≤ 100) ∧ (0 ≤ y ∧ y ≤ 100) ∧ (0 ≤ z ∧ z ≤ 100) ∧ Rd w' g p' ∧ p ≤ p' ∧ p' ≤ p + 6 ∧ Only g (g + 1) w w'
theorem lit4_at {q : Int} (h0 : 0 ≤ q) (h1 : q < 4) : ∃ j : Nat, q = j ∧ j < 4 := ⟨q.toNat, by omega, by omega⟩
theorem lit4_val {i : Nat} (hi : i < 4) : ∃ u : Int, ([.int .i64 0, .int .i64 1, .int .i64 20, .int .i64 21] : List Value)[i]? = some (.int .i64 u) ∧ 0 ≤ u ∧ u ≤ 100 := by
  have : i = 0 ∨ i = 1 ∨ i = 2 ∨ i = 3 := by omega
  rcases this with rfl | rfl | rfl | rfl
  · exact ⟨0, rfl, by omega⟩
  · exact ⟨1, rfl, by omega⟩
  · exact ⟨20, rfl, by omega⟩
  · exact ⟨21, rfl, by omega⟩
set_option maxHeartbeats 1000000 in
theorem l91Room_any (g p : Nat) (w : World) (hR : Rd w g p) (hp : p ≤ 900000) :
    Calls Try.prog 16 #[.pointer (some ⟨g, 0, none⟩)] w (Drew3 w g p) := by
  have HR := Lib.hid hR; clear hR
  have hg0 : g < w.heap.size := HR.out.lt
  have HO := Lib.hid (Only.refl g (g + 1) w)
  go_enter Try.func16, Try.ntmps16
  go_wp2_with fail
  refine (pick_any g p 10 w HR.out (by omega) (by omega)).mono ?_; rintro e w1 ⟨x, rfl, hx0, hx1, hR, hO, hs⟩
  obtain ⟨ha1, hb1⟩ := le_le hs; clear hs
  replace HR := Lib.hid hR; clear hR
  first | replace HO := Lib.hid (Only.trans HO.out hO) | replace HO := Lib.hid (Only.then_below HO.out (Below.mono hO (by omega)))
  clear hO
  have hxs : IntKind.i64.wrap (6 + x) = 6 + x := wrap_small (by omega)
  go_wp2_with fail
  refine (pick_any g (p + 1) 10 w1 HR.out (by omega) (by omega)).mono ?_; rintro e w2 ⟨y, rfl, hy0, hy1, hR, hO, hs⟩
  obtain ⟨ha2, hb2⟩ := le_le hs; clear hs
  replace HR := Lib.hid hR; clear hR
  first | replace HO := Lib.hid (Only.trans HO.out hO) | replace HO := Lib.hid (Only.then_below HO.out (Below.mono hO (by omega)))
  clear hO
  have hys : IntKind.i64.wrap (6 + y) = 6 + y := wrap_small (by omega)
  go_wp2_with fail
  refine (pick_any g (p + 1 + 1) 10 w2 HR.out (by omega) (by omega)).mono ?_; rintro e w3 ⟨z, rfl, hz0, hz1, hR, hO, hs⟩
  obtain ⟨ha3, hb3⟩ := le_le hs; clear hs
  replace HR := Lib.hid hR; clear hR
  first | replace HO := Lib.hid (Only.trans HO.out hO) | replace HO := Lib.hid (Only.then_below HO.out (Below.mono hO (by omega)))
  clear hO
  have hzs : IntKind.i64.wrap (6 + z) = 6 + z := wrap_small (by omega)
  go_wp2_with fail
  obtain ⟨x1, hx2⟩ : ∃ u, u = 6 + x := ⟨_, rfl⟩
  obtain ⟨y1, hy2⟩ : ∃ u, u = 6 + y := ⟨_, rfl⟩
  obtain ⟨z1, hz2⟩ : ∃ u, u = 6 + z := ⟨_, rfl⟩
  rw [← hx2, ← hy2, ← hz2]
  have bx : 0 ≤ x1 ∧ x1 ≤ 100 := by omega
  have by_ : 0 ≤ y1 ∧ y1 ≤ 100 := by omega
  have bz : 0 ≤ z1 ∧ z1 ≤ 100 := by omega
  clear hx2 hy2 hz2 hxs hys hzs
  obtain ⟨w4, hw4⟩ : ∃ W, W = w3.alloc (.cells #[.int .i64 x1, .int .i64 y1, .int .i64 z1] 3) := ⟨_, rfl⟩
  rw [← hw4]
  have hb : Below w3.heap.size w3 w4 := by rw [hw4]; exact (Below.refl _ _).alloc (Nat.le_refl _) _
  have HU : Hid (Blk w4 w3.heap.size 3 [.int .i64 x1, .int .i64 y1, .int .i64 z1]) := Lib.hid (by rw [hw4]; exact Blk.new w3 _ _)
  obtain ⟨ha4, hb4⟩ := le_le (show w4.heap.size = w3.heap.size + 1 by rw [hw4]; simp)
  replace HR := Lib.hid (Rd.below HR.out hb (by omega))
  first | replace HO := Lib.hid (Only.trans HO.out hb) | replace HO := Lib.hid (Only.then_below HO.out (Below.mono hb (by omega)))
  clear hb hw4
  refine (pick_any g (p + 1 + 1 + 1) 50 w4 HR.out (by omega) (by omega)).mono ?_; rintro e w5 ⟨q, rfl, hq0, hq1, hR, hO, hs⟩
  obtain ⟨ha5, hb5⟩ := le_le hs; clear hs
  replace HR := Lib.hid hR; clear hR
  first | replace HO := Lib.hid (Only.trans HO.out hO) | replace HO := Lib.hid (Only.then_below HO.out (Below.mono hO (by omega)))
  first | replace HU := Lib.hid (Blk.only HU.out hO (by omega)) | replace HU := Lib.hid (Blk.below HU.out hO (by omega))
  clear hO
  by_cases e0 : q = 0
  · subst e0
    go_wp2_with fail
    refine (pick_any g (p + 1 + 1 + 1 + 1) 3 w5 HR.out (by omega) (by omega)).mono ?_; rintro e w6 ⟨r, rfl, hr0, hr1, hR, hO, hs⟩
    obtain ⟨i, rfl⟩ := Int.eq_ofNat_of_zero_le hr0
    have hi3 : i < 3 := by omega
    obtain ⟨ha6, hb6⟩ := le_le hs; clear hs
    replace HR := Lib.hid hR; clear hR
    first | replace HO := Lib.hid (Only.trans HO.out hO) | replace HO := Lib.hid (Only.then_below HO.out (Below.mono hO (by omega)))
    first | replace HU := Lib.hid (Blk.only HU.out hO (by omega)) | replace HU := Lib.hid (Blk.below HU.out hO (by omega))
    clear hO
    go_wp2_with fail
    obtain ⟨w7, hw7⟩ : ∃ W, W = w6.alloc (.cells #[.int .i64 0, .int .i64 1, .int .i64 20, .int .i64 21] 3) := ⟨_, rfl⟩
    rw [← hw7]
    have hb : Below w6.heap.size w6 w7 := by rw [hw7]; exact (Below.refl _ _).alloc (Nat.le_refl _) _
    have HV : Hid (Blk w7 w6.heap.size 3 [.int .i64 0, .int .i64 1, .int .i64 20, .int .i64 21]) := Lib.hid (by rw [hw7]; exact Blk.new w6 _ _)
    obtain ⟨ha7, hb7⟩ := le_le (show w7.heap.size = w6.heap.size + 1 by rw [hw7]; simp)
    replace HR := Lib.hid (Rd.below HR.out hb (by omega))
    first | replace HO := Lib.hid (Only.trans HO.out hb) | replace HO := Lib.hid (Only.then_below HO.out (Below.mono hb (by omega)))
    first | replace HU := Lib.hid (Blk.only HU.out hb (by omega)) | replace HU := Lib.hid (Blk.below HU.out hb (by omega))
    clear hb hw7
    refine (pick_any g (p + 1 + 1 + 1 + 1 + 1) 4 w7 HR.out (by omega) (by omega)).mono ?_; rintro e w8 ⟨s, rfl, hs0, hs1, hR, hO, hs⟩
    obtain ⟨j, rfl⟩ := Int.eq_ofNat_of_zero_le hs0
    have hj4 : j < 4 := by omega
    obtain ⟨ha8, hb8⟩ := le_le hs; clear hs
    replace HR := Lib.hid hR; clear hR
    first | replace HO := Lib.hid (Only.trans HO.out hO) | replace HO := Lib.hid (Only.then_below HO.out (Below.mono hO (by omega)))
    first | replace HU := Lib.hid (Blk.only HU.out hO (by omega)) | replace HU := Lib.hid (Blk.below HU.out hO (by omega))
    first | replace HV := Lib.hid (Blk.only HV.out hO (by omega)) | replace HV := Lib.hid (Blk.below HV.out hO (by omega))
    clear hO
    obtain ⟨u, hu, hu0⟩ := lit4_val hj4
    have hc1 := HV.out.cell hu
    obtain ⟨v, hv⟩ := lit3_at x1 y1 z1 hi3
    have hc2 := HU.out.cell hv
    have hf2 := HU.out.frozen i
    clear hu hv
    have hi3' : (i : Int) < 3 := by omega
    have hj4' : (j : Int) < 4 := by omega
    go_wp2_with fail
    obtain ⟨x2, y2, z2, hset, hx2, hy2, hz2⟩ := lit3_set x1 y1 z1 u hi3 bx by_ bz hu0
    obtain ⟨w9, hw9⟩ : ∃ W, W = w8.setCell ⟨w3.heap.size, i, none⟩ (.int .i64 u) := ⟨_, rfl⟩
    rw [← hw9]
    have hb : Below w3.heap.size w8 w9 := by rw [hw9]; exact (Below.refl _ _).setCell (p := ⟨w3.heap.size, i, none⟩) (Nat.le_refl _) _
    replace HU : Hid (Blk w9 w3.heap.size 3 [.int .i64 x2, .int .i64 y2, .int .i64 z2]) := Lib.hid (by rw [hw9, ← hset]; exact HU.out.set_ i (.int .i64 u))
    have hs9 := hb.size
    replace HR := Lib.hid (Rd.below HR.out hb (by omega))
    first | replace HO := Lib.hid (Only.trans HO.out hb) | replace HO := Lib.hid (Only.then_below HO.out (Below.mono hb (by omega)))
    clear hb hw9 hset hc1 hc2 hf2
    go_ret
    exact ⟨w3.heap.size, x2, y2, z2, _, by simp, (Ints.of_blk (zs := [x2, y2, z2]) HU.out (by simp [maxLen])).mono (by omega) (by omega), hx2, hy2, hz2, HR.out, by omega, by omega, HO.out⟩
  · have hq0' : (q == 0) = false := by simp; omega
    go_wp2_with fail
    go_ret
    exact ⟨w3.heap.size, x1, y1, z1, _, by simp, (Ints.of_blk (zs := [x1, y1, z1]) HU.out (by simp [maxLen])).mono (by omega) (by omega), bx, by_, bz, HR.out, by omega, by omega, HO.out⟩
