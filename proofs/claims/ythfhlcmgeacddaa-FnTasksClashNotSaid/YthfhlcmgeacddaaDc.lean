/- The generator of a room and two tasks. No condition but on sizes. -/
import Derived.Test.YthfhlcmgeacddaaDz
import Derived.Test.YthfhlcmgeacddaaDu
namespace Go.Proofs.Ythfhlcmgeacddaa
open Go.RowKit
/-- a room and two tasks in new memory -/
def GenRTT (w : World) (e : Ending) (w' : World) : Prop :=
  ∃ (R : Option Addr) (r : Nat) (room : List Int) (i j : Int) (A : Option Addr) (c : Nat) (a : List Int) (B : Option Addr) (d : Nat) (b : List Int),
    e = .returned (.tuple #[.slice R room.length r, .agg #[.int .i64 i, .slice A a.length c], .agg #[.int .i64 j, .slice B b.length d]]) ∧
    (0 ≤ i ∧ i ≤ 100) ∧ (0 ≤ j ∧ j ≤ 100) ∧ Ints w' w.heap.size w'.heap.size R r room ∧ GoodN room ∧
    Ints w' w.heap.size w'.heap.size A c a ∧ GoodN a ∧ Ints w' w.heap.size w'.heap.size B d b ∧ GoodN b ∧ Below w.heap.size w w'
theorem good3 {x y z : Int} (hx : 0 ≤ x ∧ x ≤ 100) (hy : 0 ≤ y ∧ y ≤ 100) (hz : 0 ≤ z ∧ z ≤ 100) : GoodN [x, y, z] := by
  refine ⟨rfl, fun u hu => ?_⟩
  simp at hu
  rcases hu with rfl | rfl | rfl
  · exact hx
  · exact hy
  · exact hz
set_option maxHeartbeats 4000000 in
theorem DrawTasksClash_any (A : Option Addr) (n c : Nat) (w : World) (hA : BytesR w w.heap.size A n) (hc : n ≤ c) (hm : c ≤ maxLen) :
    Calls Try.prog 34 #[.slice A n c] w (GenRTT w) := by
  have HA := Lib.hid hA; clear hA
  go_enter Try.func34, Try.ntmps34
  go_wp2_with fail
  obtain ⟨w0, hw0⟩ : ∃ W, W = (w.alloc (.cells #[.int .i64 0, .slice none 0 0] 25)).alloc (.cells #[.int .i64 0, .slice none 0 0] 25) := ⟨_, rfl⟩
  rw [← hw0]
  have HB : Hid (Below w.heap.size w w0) := Lib.hid (by rw [hw0]; exact ((Below.refl _ _).alloc (Nat.le_refl _) _).alloc (by simp) _)
  have HP : Hid (Blk w0 w.heap.size 25 [.int .i64 0, .slice none 0 0]) := Lib.hid (by rw [hw0]; exact (Blk.new w _ _).alloc _)
  have HQ : Hid (Blk w0 (w.heap.size + 1) 25 [.int .i64 0, .slice none 0 0]) := Lib.hid (by rw [hw0]; simpa using Blk.new (w.alloc (.cells #[.int .i64 0, .slice none 0 0] 25)) 25 [.int .i64 0, .slice none 0 0])
  obtain ⟨ha0, hb0⟩ := le_le (show w0.heap.size = w.heap.size + 2 by rw [hw0]; simp)
  clear hw0
  have hbq := HB.out
  first | replace HA := Lib.hid (BytesR.below HA.out hbq (by omega)) | replace HA := Lib.hid (BytesR.below HA.out (Only.below hbq (by omega) (by omega)) (by omega))
  clear hbq
  refine (l6Open_any A n c w0 (HA.out.mono (by omega)) hc hm).mono ?_; rintro e w1 ⟨g, rfl, hg, hR, hb⟩
  have HR := Lib.hid hR; clear hR
  first | replace HP := Lib.hid (Blk.only HP.out hb (by omega)) | replace HP := Lib.hid (Blk.below HP.out hb (by omega))
  first | replace HQ := Lib.hid (Blk.only HQ.out hb (by omega)) | replace HQ := Lib.hid (Blk.below HQ.out hb (by omega))
  first | replace HB := Lib.hid (Below.trans HB.out (Below.mono hb (by omega))) | replace HB := Lib.hid (Below.trans HB.out (Only.below hb (by omega) (by omega)))
  have hs1 := hb.size; clear hb
  have HG := Lib.hid HR.out.lt; have hg1 := HG.out
  go_wp2_with fail
  refine (l91Room_any g 0 w1 HR.out (by omega)).mono ?_; rintro e w2 ⟨rb, rx, ry, rz, p1, rfl, hI, hrx, hry, hrz, hR, hp0, hp1, hO⟩
  replace HR := Lib.hid hR; clear hR
  have HX := Lib.hid hI; clear hI
  first | replace HP := Lib.hid (Blk.only HP.out hO (by omega)) | replace HP := Lib.hid (Blk.below HP.out hO (by omega))
  first | replace HQ := Lib.hid (Blk.only HQ.out hO (by omega)) | replace HQ := Lib.hid (Blk.below HQ.out hO (by omega))
  first | replace HB := Lib.hid (Below.trans HB.out (Below.mono hO (by omega))) | replace HB := Lib.hid (Below.trans HB.out (Only.below hO (by omega) (by omega)))
  have hs2 := hO.size
  clear hO
  go_wp2_with fail
  refine (pick_any g p1 5 w2 HR.out (by omega) (by omega)).mono ?_; rintro e w3 ⟨r1, rfl, r1a, r1b, hR, hO, hs⟩
  obtain ⟨hsw3, hsw3'⟩ := le_le hs; clear hs
  replace HR := Lib.hid hR; clear hR
  first | replace HP := Lib.hid (Blk.only HP.out hO (by omega)) | replace HP := Lib.hid (Blk.below HP.out hO (by omega))
  first | replace HQ := Lib.hid (Blk.only HQ.out hO (by omega)) | replace HQ := Lib.hid (Blk.below HQ.out hO (by omega))
  first | replace HB := Lib.hid (Below.trans HB.out (Below.mono hO (by omega))) | replace HB := Lib.hid (Below.trans HB.out (Only.below hO (by omega) (by omega)))
  first | replace HX := Lib.hid (Ints.only HX.out hO (by omega) (by omega)) | replace HX := Lib.hid (Ints.below HX.out hO (by omega))
  clear hO
  have hr1 : IntKind.i64.wrap (1 + r1) = 1 + r1 := wrap_small (by omega)
  go_wp2_with fail
  refine (l91TaskB_any g (p1 + 1) (1 + r1) w3 HR.out (by omega)).mono ?_; rintro e w4 ⟨b1, b1x, b1y, b1z, p2, rfl, hBk, b1l, b1h, b1hx, b1hy, b1hz, hR, hpp2, hqp2, hO⟩
  replace HR := Lib.hid hR; clear hR
  have HM := Lib.hid hBk; clear hBk
  first | replace HP := Lib.hid (Blk.only HP.out hO (by omega)) | replace HP := Lib.hid (Blk.below HP.out hO (by omega))
  first | replace HQ := Lib.hid (Blk.only HQ.out hO (by omega)) | replace HQ := Lib.hid (Blk.below HQ.out hO (by omega))
  first | replace HB := Lib.hid (Below.trans HB.out (Below.mono hO (by omega))) | replace HB := Lib.hid (Below.trans HB.out (Only.below hO (by omega) (by omega)))
  first | replace HX := Lib.hid (Ints.only HX.out hO (by omega) (by omega)) | replace HX := Lib.hid (Ints.below HX.out hO (by omega))
  have hsw4 := hO.size; clear hO
  go_wp2_with fail
  obtain ⟨w5, hw⟩ : ∃ W, W = w4.alloc (.cells #[.int .i64 (1 + r1), .slice (some ⟨b1, 0, none⟩) 3 3] 25) := ⟨_, rfl⟩
  rw [← hw]
  have hb : Below w4.heap.size w4 w5 := by rw [hw]; exact (Below.refl _ _).alloc (Nat.le_refl _) _
  have HU : Hid (Blk w5 w4.heap.size 25 [.int .i64 (1 + r1), .slice (some ⟨b1, 0, none⟩) 3 3]) := Lib.hid (by rw [hw]; exact Blk.new w4 _ _)
  obtain ⟨hsw5, hsw5'⟩ := le_le (show w5.heap.size = w4.heap.size + 1 by rw [hw]; simp)
  first | replace HP := Lib.hid (Blk.only HP.out hb (by omega)) | replace HP := Lib.hid (Blk.below HP.out hb (by omega))
  first | replace HQ := Lib.hid (Blk.only HQ.out hb (by omega)) | replace HQ := Lib.hid (Blk.below HQ.out hb (by omega))
  first | replace HB := Lib.hid (Below.trans HB.out (Below.mono hb (by omega))) | replace HB := Lib.hid (Below.trans HB.out (Only.below hb (by omega) (by omega)))
  first | replace HX := Lib.hid (Ints.only HX.out hb (by omega) (by omega)) | replace HX := Lib.hid (Ints.below HX.out hb (by omega))
  first | replace HM := Lib.hid (Blk.only HM.out hb (by omega)) | replace HM := Lib.hid (Blk.below HM.out hb (by omega))
  replace HR := Lib.hid (Rd.below HR.out hb (by omega))
  clear hb hw
  go_wp2_with fail
  refine (pick_any g p2 5 w5 HR.out (by omega) (by omega)).mono ?_; rintro e w6 ⟨r2, rfl, r2a, r2b, hR, hO, hs⟩
  obtain ⟨hsw6, hsw6'⟩ := le_le hs; clear hs
  replace HR := Lib.hid hR; clear hR
  first | replace HP := Lib.hid (Blk.only HP.out hO (by omega)) | replace HP := Lib.hid (Blk.below HP.out hO (by omega))
  first | replace HQ := Lib.hid (Blk.only HQ.out hO (by omega)) | replace HQ := Lib.hid (Blk.below HQ.out hO (by omega))
  first | replace HB := Lib.hid (Below.trans HB.out (Below.mono hO (by omega))) | replace HB := Lib.hid (Below.trans HB.out (Only.below hO (by omega) (by omega)))
  first | replace HX := Lib.hid (Ints.only HX.out hO (by omega) (by omega)) | replace HX := Lib.hid (Ints.below HX.out hO (by omega))
  first | replace HM := Lib.hid (Blk.only HM.out hO (by omega)) | replace HM := Lib.hid (Blk.below HM.out hO (by omega))
  first | replace HU := Lib.hid (Blk.only HU.out hO (by omega)) | replace HU := Lib.hid (Blk.below HU.out hO (by omega))
  clear hO
  have hr2 : IntKind.i64.wrap (6 + r2) = 6 + r2 := wrap_small (by omega)
  go_wp2_with fail
  refine (l91TaskB_any g (p2 + 1) (6 + r2) w6 HR.out (by omega)).mono ?_; rintro e w7 ⟨b2, b2x, b2y, b2z, p3, rfl, hBk, b2l, b2h, b2hx, b2hy, b2hz, hR, hpp3, hqp3, hO⟩
  replace HR := Lib.hid hR; clear hR
  have HN := Lib.hid hBk; clear hBk
  first | replace HP := Lib.hid (Blk.only HP.out hO (by omega)) | replace HP := Lib.hid (Blk.below HP.out hO (by omega))
  first | replace HQ := Lib.hid (Blk.only HQ.out hO (by omega)) | replace HQ := Lib.hid (Blk.below HQ.out hO (by omega))
  first | replace HB := Lib.hid (Below.trans HB.out (Below.mono hO (by omega))) | replace HB := Lib.hid (Below.trans HB.out (Only.below hO (by omega) (by omega)))
  first | replace HX := Lib.hid (Ints.only HX.out hO (by omega) (by omega)) | replace HX := Lib.hid (Ints.below HX.out hO (by omega))
  first | replace HM := Lib.hid (Blk.only HM.out hO (by omega)) | replace HM := Lib.hid (Blk.below HM.out hO (by omega))
  first | replace HU := Lib.hid (Blk.only HU.out hO (by omega)) | replace HU := Lib.hid (Blk.below HU.out hO (by omega))
  have hsw7 := hO.size; clear hO
  go_wp2_with fail
  obtain ⟨w8, hw⟩ : ∃ W, W = w7.alloc (.cells #[.int .i64 (6 + r2), .slice (some ⟨b2, 0, none⟩) 3 3] 25) := ⟨_, rfl⟩
  rw [← hw]
  have hb : Below w7.heap.size w7 w8 := by rw [hw]; exact (Below.refl _ _).alloc (Nat.le_refl _) _
  have HV : Hid (Blk w8 w7.heap.size 25 [.int .i64 (6 + r2), .slice (some ⟨b2, 0, none⟩) 3 3]) := Lib.hid (by rw [hw]; exact Blk.new w7 _ _)
  obtain ⟨hsw8, hsw8'⟩ := le_le (show w8.heap.size = w7.heap.size + 1 by rw [hw]; simp)
  first | replace HP := Lib.hid (Blk.only HP.out hb (by omega)) | replace HP := Lib.hid (Blk.below HP.out hb (by omega))
  first | replace HQ := Lib.hid (Blk.only HQ.out hb (by omega)) | replace HQ := Lib.hid (Blk.below HQ.out hb (by omega))
  first | replace HB := Lib.hid (Below.trans HB.out (Below.mono hb (by omega))) | replace HB := Lib.hid (Below.trans HB.out (Only.below hb (by omega) (by omega)))
  first | replace HX := Lib.hid (Ints.only HX.out hb (by omega) (by omega)) | replace HX := Lib.hid (Ints.below HX.out hb (by omega))
  first | replace HM := Lib.hid (Blk.only HM.out hb (by omega)) | replace HM := Lib.hid (Blk.below HM.out hb (by omega))
  first | replace HU := Lib.hid (Blk.only HU.out hb (by omega)) | replace HU := Lib.hid (Blk.below HU.out hb (by omega))
  first | replace HN := Lib.hid (Blk.only HN.out hb (by omega)) | replace HN := Lib.hid (Blk.below HN.out hb (by omega))
  replace HR := Lib.hid (Rd.below HR.out hb (by omega))
  clear hb hw
  go_wp2_with fail
  refine (pick_any g p3 2 w8 HR.out (by omega) (by omega)).mono ?_; rintro e w9 ⟨r3, rfl, r3a, r3b, hR, hO, hs⟩
  obtain ⟨hsw9, hsw9'⟩ := le_le hs; clear hs
  replace HR := Lib.hid hR; clear hR
  first | replace HP := Lib.hid (Blk.only HP.out hO (by omega)) | replace HP := Lib.hid (Blk.below HP.out hO (by omega))
  first | replace HQ := Lib.hid (Blk.only HQ.out hO (by omega)) | replace HQ := Lib.hid (Blk.below HQ.out hO (by omega))
  first | replace HB := Lib.hid (Below.trans HB.out (Below.mono hO (by omega))) | replace HB := Lib.hid (Below.trans HB.out (Only.below hO (by omega) (by omega)))
  first | replace HX := Lib.hid (Ints.only HX.out hO (by omega) (by omega)) | replace HX := Lib.hid (Ints.below HX.out hO (by omega))
  first | replace HM := Lib.hid (Blk.only HM.out hO (by omega)) | replace HM := Lib.hid (Blk.below HM.out hO (by omega))
  first | replace HU := Lib.hid (Blk.only HU.out hO (by omega)) | replace HU := Lib.hid (Blk.below HU.out hO (by omega))
  first | replace HN := Lib.hid (Blk.only HN.out hO (by omega)) | replace HN := Lib.hid (Blk.below HN.out hO (by omega))
  first | replace HV := Lib.hid (Blk.only HV.out hO (by omega)) | replace HV := Lib.hid (Blk.below HV.out hO (by omega))
  clear hO
  by_cases e3 : r3 = 0
  · subst e3
    go_wp2_with fail
    refine (pick_any g (p3 + 1) 3 w9 HR.out (by omega) (by omega)).mono ?_; rintro e w10 ⟨k0, rfl, k0a, k0b, hR, hO, hs⟩
    obtain ⟨hsw10, hsw10'⟩ := le_le hs; clear hs
    replace HR := Lib.hid hR; clear hR
    first | replace HP := Lib.hid (Blk.only HP.out hO (by omega)) | replace HP := Lib.hid (Blk.below HP.out hO (by omega))
    first | replace HQ := Lib.hid (Blk.only HQ.out hO (by omega)) | replace HQ := Lib.hid (Blk.below HQ.out hO (by omega))
    first | replace HB := Lib.hid (Below.trans HB.out (Below.mono hO (by omega))) | replace HB := Lib.hid (Below.trans HB.out (Only.below hO (by omega) (by omega)))
    first | replace HX := Lib.hid (Ints.only HX.out hO (by omega) (by omega)) | replace HX := Lib.hid (Ints.below HX.out hO (by omega))
    first | replace HM := Lib.hid (Blk.only HM.out hO (by omega)) | replace HM := Lib.hid (Blk.below HM.out hO (by omega))
    first | replace HU := Lib.hid (Blk.only HU.out hO (by omega)) | replace HU := Lib.hid (Blk.below HU.out hO (by omega))
    first | replace HN := Lib.hid (Blk.only HN.out hO (by omega)) | replace HN := Lib.hid (Blk.below HN.out hO (by omega))
    first | replace HV := Lib.hid (Blk.only HV.out hO (by omega)) | replace HV := Lib.hid (Blk.below HV.out hO (by omega))
    clear hO
    obtain ⟨k, rfl⟩ := Int.eq_ofNat_of_zero_le k0a
    have hk3 : k < 3 := by omega
    have hk3' : (k : Int) < 3 := by omega
    replace HP : Hid (Blk w10.drew _ _ _) := HP
    replace HQ : Hid (Blk w10.drew _ _ _) := HQ
    replace HB : Hid (Below w.heap.size w w10.drew) := Lib.hid HB.out.drew
    replace HX : Hid (Ints w10.drew _ _ _ _ _) := HX
    replace HM : Hid (Blk w10.drew _ _ _) := HM
    replace HU : Hid (Blk w10.drew _ _ _) := HU
    replace HN : Hid (Blk w10.drew _ _ _) := HN
    replace HV : Hid (Blk w10.drew _ _ _) := HV
    replace HR : Hid (Rd w10.drew g _) := HR
    have hdrw10 : w10.heap.size ≤ w10.drew.heap.size ∧ w10.drew.heap.size ≤ w10.heap.size := ⟨Nat.le_refl _, Nat.le_refl _⟩
    have hu0 := HU.out.cell (i := 0) rfl
    have hu1 := HU.out.cell (i := 1) rfl
    have hv0 := HV.out.cell (i := 0) rfl
    have hv1 := HV.out.cell (i := 1) rfl
    have hp0' := HP.out.cell (i := 0) rfl
    have hp1' := HP.out.cell (i := 1) rfl
    have hq0' := HQ.out.cell (i := 0) rfl
    have hq1' := HQ.out.cell (i := 1) rfl
    have hpf0 := HP.out.frozen 0
    have hpf1 := HP.out.frozen 1
    have hqf0 := HQ.out.frozen 0
    have hqf1 := HQ.out.frozen 1
    have hvf0 := HV.out.frozen 0
    have hn1 : w4.heap.size ≠ w.heap.size := by omega
    have hn2 : w4.heap.size ≠ w.heap.size + 1 := by omega
    have hn3 : w7.heap.size ≠ w.heap.size := by omega
    have hn4 : w7.heap.size ≠ w.heap.size + 1 := by omega
    have hn5 : w7.heap.size ≠ w4.heap.size := by omega
    have hn6 : w4.heap.size ≠ w7.heap.size := by omega
    obtain ⟨z0, hz0⟩ := lit3_at b1x b1y b1z hk3
    go_wp2_with fail
    go_region_held3 (fun w' => w'.cell? ⟨w4.heap.size, 1, none⟩ = some (.slice (some ⟨b1, 0, none⟩) 3 3))
      (go_keep)
      (first | (go_at_call 44; (with_reducible refine (pick_any g (p3 + 1 + 1) 2 _ HR.out (by omega) (by omega)).mono ?_); rintro e w11 ⟨u1, rfl, u1a, u1b, hR, hO, hs⟩; obtain ⟨hsw11, hsw11'⟩ := le_le hs; clear hs; replace HR := Lib.hid hR; clear hR; (first | replace HP := Lib.hid (Blk.only HP.out hO (by omega)) | replace HP := Lib.hid (Blk.below HP.out hO (by omega))); (first | replace HQ := Lib.hid (Blk.only HQ.out hO (by omega)) | replace HQ := Lib.hid (Blk.below HQ.out hO (by omega))); (first | replace HB := Lib.hid (Below.trans HB.out (Below.mono hO (by omega))) | replace HB := Lib.hid (Below.trans HB.out (Only.below hO (by omega) (by omega)))); (first | replace HX := Lib.hid (Ints.only HX.out hO (by omega) (by omega)) | replace HX := Lib.hid (Ints.below HX.out hO (by omega))); (first | replace HM := Lib.hid (Blk.only HM.out hO (by omega)) | replace HM := Lib.hid (Blk.below HM.out hO (by omega))); (first | replace HU := Lib.hid (Blk.only HU.out hO (by omega)) | replace HU := Lib.hid (Blk.below HU.out hO (by omega))); (first | replace HN := Lib.hid (Blk.only HN.out hO (by omega)) | replace HN := Lib.hid (Blk.below HN.out hO (by omega))); (first | replace HV := Lib.hid (Blk.only HV.out hO (by omega)) | replace HV := Lib.hid (Blk.below HV.out hO (by omega))); clear hO hu0 hu1 hv0 hv1 hp0' hp1' hq0' hq1' hpf0 hpf1 hqf0 hqf1 hvf0; have hu1 : IntKind.i64.wrap (5 + u1) = 5 + u1 := wrap_small (by omega); have hu0 := HU.out.cell (i := 0) rfl; have hu1 := HU.out.cell (i := 1) rfl; have hv0 := HV.out.cell (i := 0) rfl; have hv1 := HV.out.cell (i := 1) rfl; have hp0' := HP.out.cell (i := 0) rfl; have hp1' := HP.out.cell (i := 1) rfl; have hq0' := HQ.out.cell (i := 0) rfl; have hq1' := HQ.out.cell (i := 1) rfl; have hpf0 := HP.out.frozen 0; have hpf1 := HP.out.frozen 1; have hqf0 := HQ.out.frozen 0; have hqf1 := HQ.out.frozen 1; have hvf0 := HV.out.frozen 0; have hm0 := HM.out.cell hz0; have hmf := HM.out.frozen k; have hne8 : b1 ≠ w4.heap.size := (by omega); have hne9 : w4.heap.size ≠ b1 := (by omega)))
    obtain ⟨c1x, c1y, c1z, hset, c1hx, c1hy, c1hz⟩ := lit3_set b1x b1y b1z (5 + u1) hk3 b1hx b1hy b1hz (by omega)
    obtain ⟨w12, hw⟩ : ∃ W, W = w11.setCell ⟨b1, k, none⟩ (.int .i64 (5 + u1)) := ⟨_, rfl⟩
    rw [← hw]
    have hO : Only b1 (b1 + 1) w11 w12 := by rw [hw]; exact (Only.refl _ _ _).setCell (p := ⟨b1, k, none⟩) (Nat.le_refl _) (by simp) _
    replace HM : Hid (Blk w12 b1 3 [.int .i64 c1x, .int .i64 c1y, .int .i64 c1z]) := Lib.hid (by rw [hw, ← hset]; exact HM.out.set_ k _)
    have hsw12 := hO.size
    have hbk : Below b1 w11 w12 := hO.below (Nat.le_refl _) (by omega)
    first | replace HP := Lib.hid (Blk.only HP.out hO (by omega)) | replace HP := Lib.hid (Blk.below HP.out hO (by omega))
    first | replace HQ := Lib.hid (Blk.only HQ.out hO (by omega)) | replace HQ := Lib.hid (Blk.below HQ.out hO (by omega))
    first | replace HB := Lib.hid (Below.trans HB.out (Below.mono hO (by omega))) | replace HB := Lib.hid (Below.trans HB.out (Only.below hO (by omega) (by omega)))
    first | replace HX := Lib.hid (Ints.only HX.out hO (by omega) (by omega)) | replace HX := Lib.hid (Ints.below HX.out hO (by omega))
    first | replace HU := Lib.hid (Blk.only HU.out hO (by omega)) | replace HU := Lib.hid (Blk.below HU.out hO (by omega))
    first | replace HN := Lib.hid (Blk.only HN.out hO (by omega)) | replace HN := Lib.hid (Blk.below HN.out hO (by omega))
    first | replace HV := Lib.hid (Blk.only HV.out hO (by omega)) | replace HV := Lib.hid (Blk.below HV.out hO (by omega))
    replace HR := Lib.hid (HR.out.below hbk (by omega))
    clear hO hbk hw hset hz0 hm0 hmf hne8 hne9 hu0 hu1 hv0 hv1 hp0' hp1' hq0' hq1' hpf0 hpf1 hqf0 hqf1 hvf0 hn1 hn2 hn3 hn4 hn5 hn6
    replace HP : Hid (Blk w12.drew _ _ _) := HP
    replace HQ : Hid (Blk w12.drew _ _ _) := HQ
    replace HB : Hid (Below w.heap.size w w12.drew) := Lib.hid HB.out.drew
    replace HX : Hid (Ints w12.drew _ _ _ _ _) := HX
    replace HM : Hid (Blk w12.drew _ _ _) := HM
    replace HU : Hid (Blk w12.drew _ _ _) := HU
    replace HN : Hid (Blk w12.drew _ _ _) := HN
    replace HV : Hid (Blk w12.drew _ _ _) := HV
    replace HR : Hid (Rd w12.drew g _) := HR
    have hdrw12 : w12.heap.size ≤ w12.drew.heap.size ∧ w12.drew.heap.size ≤ w12.heap.size := ⟨Nat.le_refl _, Nat.le_refl _⟩
    have hu0 := HU.out.cell (i := 0) rfl
    have hu1 := HU.out.cell (i := 1) rfl
    have hv0 := HV.out.cell (i := 0) rfl
    have hv1 := HV.out.cell (i := 1) rfl
    have hp0' := HP.out.cell (i := 0) rfl
    have hp1' := HP.out.cell (i := 1) rfl
    have hq0' := HQ.out.cell (i := 0) rfl
    have hq1' := HQ.out.cell (i := 1) rfl
    have hpf0 := HP.out.frozen 0
    have hpf1 := HP.out.frozen 1
    have hqf0 := HQ.out.frozen 0
    have hqf1 := HQ.out.frozen 1
    have hvf0 := HV.out.frozen 0
    have hn1 : w4.heap.size ≠ w.heap.size := by omega
    have hn2 : w4.heap.size ≠ w.heap.size + 1 := by omega
    have hn3 : w7.heap.size ≠ w.heap.size := by omega
    have hn4 : w7.heap.size ≠ w.heap.size + 1 := by omega
    have hn5 : w7.heap.size ≠ w4.heap.size := by omega
    have hn6 : w4.heap.size ≠ w7.heap.size := by omega
    obtain ⟨z0, hz0⟩ := lit3_at b2x b2y b2z hk3
    go_wp2_with fail
    go_region_held3 (fun w' => w'.cell? ⟨w7.heap.size, 1, none⟩ = some (.slice (some ⟨b2, 0, none⟩) 3 3))
      (go_keep)
      (first | (go_at_call 44; (with_reducible refine (pick_any g (p3 + 1 + 1 + 1) 3 _ HR.out (by omega) (by omega)).mono ?_); rintro e w13 ⟨u2, rfl, u2a, u2b, hR, hO, hs⟩; obtain ⟨hsw13, hsw13'⟩ := le_le hs; clear hs; replace HR := Lib.hid hR; clear hR; (first | replace HP := Lib.hid (Blk.only HP.out hO (by omega)) | replace HP := Lib.hid (Blk.below HP.out hO (by omega))); (first | replace HQ := Lib.hid (Blk.only HQ.out hO (by omega)) | replace HQ := Lib.hid (Blk.below HQ.out hO (by omega))); (first | replace HB := Lib.hid (Below.trans HB.out (Below.mono hO (by omega))) | replace HB := Lib.hid (Below.trans HB.out (Only.below hO (by omega) (by omega)))); (first | replace HX := Lib.hid (Ints.only HX.out hO (by omega) (by omega)) | replace HX := Lib.hid (Ints.below HX.out hO (by omega))); (first | replace HM := Lib.hid (Blk.only HM.out hO (by omega)) | replace HM := Lib.hid (Blk.below HM.out hO (by omega))); (first | replace HU := Lib.hid (Blk.only HU.out hO (by omega)) | replace HU := Lib.hid (Blk.below HU.out hO (by omega))); (first | replace HN := Lib.hid (Blk.only HN.out hO (by omega)) | replace HN := Lib.hid (Blk.below HN.out hO (by omega))); (first | replace HV := Lib.hid (Blk.only HV.out hO (by omega)) | replace HV := Lib.hid (Blk.below HV.out hO (by omega))); clear hO hu0 hu1 hv0 hv1 hp0' hp1' hq0' hq1' hpf0 hpf1 hqf0 hqf1 hvf0; have hu2 : IntKind.i64.wrap (4 + u2) = 4 + u2 := wrap_small (by omega); have hu0 := HU.out.cell (i := 0) rfl; have hu1 := HU.out.cell (i := 1) rfl; have hv0 := HV.out.cell (i := 0) rfl; have hv1 := HV.out.cell (i := 1) rfl; have hp0' := HP.out.cell (i := 0) rfl; have hp1' := HP.out.cell (i := 1) rfl; have hq0' := HQ.out.cell (i := 0) rfl; have hq1' := HQ.out.cell (i := 1) rfl; have hpf0 := HP.out.frozen 0; have hpf1 := HP.out.frozen 1; have hqf0 := HQ.out.frozen 0; have hqf1 := HQ.out.frozen 1; have hvf0 := HV.out.frozen 0; have hm0 := HN.out.cell hz0; have hmf := HN.out.frozen k; have hne8 : b2 ≠ w7.heap.size := (by omega); have hne9 : w7.heap.size ≠ b2 := (by omega)))
    obtain ⟨c2x, c2y, c2z, hset, c2hx, c2hy, c2hz⟩ := lit3_set b2x b2y b2z (4 + u2) hk3 b2hx b2hy b2hz (by omega)
    obtain ⟨w14, hw⟩ : ∃ W, W = w13.setCell ⟨b2, k, none⟩ (.int .i64 (4 + u2)) := ⟨_, rfl⟩
    rw [← hw]
    have hO : Only b2 (b2 + 1) w13 w14 := by rw [hw]; exact (Only.refl _ _ _).setCell (p := ⟨b2, k, none⟩) (Nat.le_refl _) (by simp) _
    replace HN : Hid (Blk w14 b2 3 [.int .i64 c2x, .int .i64 c2y, .int .i64 c2z]) := Lib.hid (by rw [hw, ← hset]; exact HN.out.set_ k _)
    have hsw14 := hO.size
    have hbk : Below b2 w13 w14 := hO.below (Nat.le_refl _) (by omega)
    first | replace HP := Lib.hid (Blk.only HP.out hO (by omega)) | replace HP := Lib.hid (Blk.below HP.out hO (by omega))
    first | replace HQ := Lib.hid (Blk.only HQ.out hO (by omega)) | replace HQ := Lib.hid (Blk.below HQ.out hO (by omega))
    first | replace HB := Lib.hid (Below.trans HB.out (Below.mono hO (by omega))) | replace HB := Lib.hid (Below.trans HB.out (Only.below hO (by omega) (by omega)))
    first | replace HX := Lib.hid (Ints.only HX.out hO (by omega) (by omega)) | replace HX := Lib.hid (Ints.below HX.out hO (by omega))
    first | replace HM := Lib.hid (Blk.only HM.out hO (by omega)) | replace HM := Lib.hid (Blk.below HM.out hO (by omega))
    first | replace HU := Lib.hid (Blk.only HU.out hO (by omega)) | replace HU := Lib.hid (Blk.below HU.out hO (by omega))
    first | replace HV := Lib.hid (Blk.only HV.out hO (by omega)) | replace HV := Lib.hid (Blk.below HV.out hO (by omega))
    replace HR := Lib.hid (HR.out.below hbk (by omega))
    clear hO hbk hw hset hz0 hm0 hmf hne8 hne9 hu0 hu1 hv0 hv1 hp0' hp1' hq0' hq1' hpf0 hpf1 hqf0 hqf1 hvf0 hn1 hn2 hn3 hn4 hn5 hn6
    go_wp2_with fail
    refine (pick_any g (p3 + 1 + 1 + 1 + 1) 24 w14 HR.out (by omega) (by omega)).mono ?_; rintro e w15 ⟨r4, rfl, r4a, r4b, hR, hO, hs⟩
    obtain ⟨hsw15, hsw15'⟩ := le_le hs; clear hs
    replace HR := Lib.hid hR; clear hR
    first | replace HP := Lib.hid (Blk.only HP.out hO (by omega)) | replace HP := Lib.hid (Blk.below HP.out hO (by omega))
    first | replace HQ := Lib.hid (Blk.only HQ.out hO (by omega)) | replace HQ := Lib.hid (Blk.below HQ.out hO (by omega))
    first | replace HB := Lib.hid (Below.trans HB.out (Below.mono hO (by omega))) | replace HB := Lib.hid (Below.trans HB.out (Only.below hO (by omega) (by omega)))
    first | replace HX := Lib.hid (Ints.only HX.out hO (by omega) (by omega)) | replace HX := Lib.hid (Ints.below HX.out hO (by omega))
    first | replace HM := Lib.hid (Blk.only HM.out hO (by omega)) | replace HM := Lib.hid (Blk.below HM.out hO (by omega))
    first | replace HU := Lib.hid (Blk.only HU.out hO (by omega)) | replace HU := Lib.hid (Blk.below HU.out hO (by omega))
    first | replace HN := Lib.hid (Blk.only HN.out hO (by omega)) | replace HN := Lib.hid (Blk.below HN.out hO (by omega))
    first | replace HV := Lib.hid (Blk.only HV.out hO (by omega)) | replace HV := Lib.hid (Blk.below HV.out hO (by omega))
    clear hO
    by_cases e4 : r4 = 0
    · subst e4
      have hu0 := HU.out.cell (i := 0) rfl
      have hu1 := HU.out.cell (i := 1) rfl
      have hv0 := HV.out.cell (i := 0) rfl
      have hv1 := HV.out.cell (i := 1) rfl
      have hp0' := HP.out.cell (i := 0) rfl
      have hp1' := HP.out.cell (i := 1) rfl
      have hq0' := HQ.out.cell (i := 0) rfl
      have hq1' := HQ.out.cell (i := 1) rfl
      have hpf0 := HP.out.frozen 0
      have hpf1 := HP.out.frozen 1
      have hqf0 := HQ.out.frozen 0
      have hqf1 := HQ.out.frozen 1
      have hvf0 := HV.out.frozen 0
      have hn1 : w4.heap.size ≠ w.heap.size := by omega
      have hn2 : w4.heap.size ≠ w.heap.size + 1 := by omega
      have hn3 : w7.heap.size ≠ w.heap.size := by omega
      have hn4 : w7.heap.size ≠ w.heap.size + 1 := by omega
      have hn5 : w7.heap.size ≠ w4.heap.size := by omega
      have hn6 : w4.heap.size ≠ w7.heap.size := by omega
      go_wp2_with fail
      obtain ⟨w16, hw⟩ : ∃ W, W = w15.setCell ⟨w7.heap.size, 0, none⟩ (.int .i64 (1 + r1)) := ⟨_, rfl⟩
      rw [← hw]
      have hO : Only w7.heap.size (w7.heap.size + 1) w15 w16 := by rw [hw]; exact (Only.refl _ _ _).setCell (p := ⟨w7.heap.size, 0, none⟩) (Nat.le_refl _) (by simp) _
      replace HV : Hid (Blk w16 w7.heap.size 25 [.int .i64 (1 + r1), .slice (some ⟨b2, 0, none⟩) 3 3]) := Lib.hid (by rw [hw]; exact HV.out.set_ 0 _)
      have hsw16 := hO.size
      first | replace HP := Lib.hid (Blk.only HP.out hO (by omega)) | replace HP := Lib.hid (Blk.below HP.out hO (by omega))
      first | replace HQ := Lib.hid (Blk.only HQ.out hO (by omega)) | replace HQ := Lib.hid (Blk.below HQ.out hO (by omega))
      first | replace HB := Lib.hid (Below.trans HB.out (Below.mono hO (by omega))) | replace HB := Lib.hid (Below.trans HB.out (Only.below hO (by omega) (by omega)))
      first | replace HX := Lib.hid (Ints.only HX.out hO (by omega) (by omega)) | replace HX := Lib.hid (Ints.below HX.out hO (by omega))
      first | replace HM := Lib.hid (Blk.only HM.out hO (by omega)) | replace HM := Lib.hid (Blk.below HM.out hO (by omega))
      first | replace HU := Lib.hid (Blk.only HU.out hO (by omega)) | replace HU := Lib.hid (Blk.below HU.out hO (by omega))
      first | replace HN := Lib.hid (Blk.only HN.out hO (by omega)) | replace HN := Lib.hid (Blk.below HN.out hO (by omega))
      clear hO hw hu0 hu1 hv0 hv1 hp0' hp1' hq0' hq1' hpf0 hpf1 hqf0 hqf1 hvf0
      have hu0 := HU.out.cell (i := 0) rfl
      have hu1 := HU.out.cell (i := 1) rfl
      have hv0 := HV.out.cell (i := 0) rfl
      have hv1 := HV.out.cell (i := 1) rfl
      have hp0' := HP.out.cell (i := 0) rfl
      have hp1' := HP.out.cell (i := 1) rfl
      have hq0' := HQ.out.cell (i := 0) rfl
      have hq1' := HQ.out.cell (i := 1) rfl
      have hpf0 := HP.out.frozen 0
      have hpf1 := HP.out.frozen 1
      have hqf0 := HQ.out.frozen 0
      have hqf1 := HQ.out.frozen 1
      have hvf0 := HV.out.frozen 0
      go_wp2_with fail
      go_region
      obtain ⟨wf, hwf⟩ : ∃ W, W = ((((w16.setCell ⟨w.heap.size, 0, none⟩ (.int .i64 (1 + r1))).setCell ⟨w.heap.size, 1, none⟩ (.slice (some ⟨b1, 0, none⟩) 3 3)).setCell ⟨w.heap.size + 1, 0, none⟩ (.int .i64 (1 + r1))).setCell ⟨w.heap.size + 1, 1, none⟩ (.slice (some ⟨b2, 0, none⟩) 3 3)).drew := ⟨_, rfl⟩
      rw [← hwf]
      have HPf : Blk wf w.heap.size 25 [.int .i64 (1 + r1), .slice (some ⟨b1, 0, none⟩) 3 3] := by rw [hwf]; exact ((((HP.out.set_ 0 (.int .i64 (1 + r1))).set_ 1 (.slice (some ⟨b1, 0, none⟩) 3 3)).far (by simp) _).far (by simp) _).drew
      have HQf : Blk wf (w.heap.size + 1) 25 [.int .i64 (1 + r1), .slice (some ⟨b2, 0, none⟩) 3 3] := by rw [hwf]; exact ((((HQ.out.far (by simp) _).far (by simp) _).set_ 0 (.int .i64 (1 + r1))).set_ 1 (.slice (some ⟨b2, 0, none⟩) 3 3)).drew
      have hO : Only w.heap.size (w.heap.size + 2) w16 wf := by rw [hwf]; exact (((((Only.refl _ _ _).setCell (p := ⟨w.heap.size, 0, none⟩) (Nat.le_refl _) (by simp) _).setCell (p := ⟨w.heap.size, 1, none⟩) (Nat.le_refl _) (by simp) _).setCell (p := ⟨w.heap.size + 1, 0, none⟩) (by simp) (by simp) _).setCell (p := ⟨w.heap.size + 1, 1, none⟩) (by simp) (by simp) _).drew
      have hsf := hO.size
      have HIA := Lib.hid (Ints.of_blk (zs := [c1x, c1y, c1z]) HM.out (by simp [maxLen]))
      have HIB := Lib.hid (Ints.of_blk (zs := [c2x, c2y, c2z]) HN.out (by simp [maxLen]))
      first | replace HX := Lib.hid (Ints.only HX.out hO (by omega) (by omega)) | replace HX := Lib.hid (Ints.below HX.out hO (by omega))
      first | replace HIA := Lib.hid (Ints.only HIA.out hO (by omega) (by omega)) | replace HIA := Lib.hid (Ints.below HIA.out hO (by omega))
      first | replace HIB := Lib.hid (Ints.only HIB.out hO (by omega) (by omega)) | replace HIB := Lib.hid (Ints.below HIB.out hO (by omega))
      first | replace HB := Lib.hid (Below.trans HB.out (Below.mono hO (by omega))) | replace HB := Lib.hid (Below.trans HB.out (Only.below hO (by omega) (by omega)))
      clear hwf hO hu0 hu1 hv0 hv1 hp0' hp1' hq0' hq1' hpf0 hpf1 hqf0 hqf1 hvf0
      go_wp2_with fail
      have hf0 := HPf.cell (i := 0) rfl
      have hf1 := HPf.cell (i := 1) rfl
      have hf2 := HQf.cell (i := 0) rfl
      have hf3 := HQf.cell (i := 1) rfl
      refine bodyPost_ret (v := .tuple #[.slice (some ⟨rb, 0, none⟩) 3 3, .agg #[.int .i64 (1 + r1), .slice (some ⟨b1, 0, none⟩) 3 3], .agg #[.int .i64 (1 + r1), .slice (some ⟨b2, 0, none⟩) 3 3]]) (by simp [results, Try.results34, go_sem, hf0, hf1, hf2, hf3]) rfl ?_
      exact ⟨_, 3, [rx, ry, rz], 1 + r1, 1 + r1, _, 3, [c1x, c1y, c1z], _, 3, [c2x, c2y, c2z], rfl, by omega, by omega, HX.out.mono (by omega) (by omega), good3 hrx hry hrz, HIA.out.mono (by omega) (by omega), good3 c1hx c1hy c1hz, HIB.out.mono (by omega) (by omega), good3 c2hx c2hy c2hz, HB.out⟩
    · have e4' : (r4 == 0) = false := beq_eq_false_iff_ne.2 e4
      have hu0 := HU.out.cell (i := 0) rfl
      have hu1 := HU.out.cell (i := 1) rfl
      have hv0 := HV.out.cell (i := 0) rfl
      have hv1 := HV.out.cell (i := 1) rfl
      have hp0' := HP.out.cell (i := 0) rfl
      have hp1' := HP.out.cell (i := 1) rfl
      have hq0' := HQ.out.cell (i := 0) rfl
      have hq1' := HQ.out.cell (i := 1) rfl
      have hpf0 := HP.out.frozen 0
      have hpf1 := HP.out.frozen 1
      have hqf0 := HQ.out.frozen 0
      have hqf1 := HQ.out.frozen 1
      have hvf0 := HV.out.frozen 0
      have hn1 : w4.heap.size ≠ w.heap.size := by omega
      have hn2 : w4.heap.size ≠ w.heap.size + 1 := by omega
      have hn3 : w7.heap.size ≠ w.heap.size := by omega
      have hn4 : w7.heap.size ≠ w.heap.size + 1 := by omega
      have hn5 : w7.heap.size ≠ w4.heap.size := by omega
      have hn6 : w4.heap.size ≠ w7.heap.size := by omega
      go_wp2_with fail
      go_region
      obtain ⟨wf, hwf⟩ : ∃ W, W = ((((w15.setCell ⟨w.heap.size, 0, none⟩ (.int .i64 (1 + r1))).setCell ⟨w.heap.size, 1, none⟩ (.slice (some ⟨b1, 0, none⟩) 3 3)).setCell ⟨w.heap.size + 1, 0, none⟩ (.int .i64 (6 + r2))).setCell ⟨w.heap.size + 1, 1, none⟩ (.slice (some ⟨b2, 0, none⟩) 3 3)).drew := ⟨_, rfl⟩
      rw [← hwf]
      have HPf : Blk wf w.heap.size 25 [.int .i64 (1 + r1), .slice (some ⟨b1, 0, none⟩) 3 3] := by rw [hwf]; exact ((((HP.out.set_ 0 (.int .i64 (1 + r1))).set_ 1 (.slice (some ⟨b1, 0, none⟩) 3 3)).far (by simp) _).far (by simp) _).drew
      have HQf : Blk wf (w.heap.size + 1) 25 [.int .i64 (6 + r2), .slice (some ⟨b2, 0, none⟩) 3 3] := by rw [hwf]; exact ((((HQ.out.far (by simp) _).far (by simp) _).set_ 0 (.int .i64 (6 + r2))).set_ 1 (.slice (some ⟨b2, 0, none⟩) 3 3)).drew
      have hO : Only w.heap.size (w.heap.size + 2) w15 wf := by rw [hwf]; exact (((((Only.refl _ _ _).setCell (p := ⟨w.heap.size, 0, none⟩) (Nat.le_refl _) (by simp) _).setCell (p := ⟨w.heap.size, 1, none⟩) (Nat.le_refl _) (by simp) _).setCell (p := ⟨w.heap.size + 1, 0, none⟩) (by simp) (by simp) _).setCell (p := ⟨w.heap.size + 1, 1, none⟩) (by simp) (by simp) _).drew
      have hsf := hO.size
      have HIA := Lib.hid (Ints.of_blk (zs := [c1x, c1y, c1z]) HM.out (by simp [maxLen]))
      have HIB := Lib.hid (Ints.of_blk (zs := [c2x, c2y, c2z]) HN.out (by simp [maxLen]))
      first | replace HX := Lib.hid (Ints.only HX.out hO (by omega) (by omega)) | replace HX := Lib.hid (Ints.below HX.out hO (by omega))
      first | replace HIA := Lib.hid (Ints.only HIA.out hO (by omega) (by omega)) | replace HIA := Lib.hid (Ints.below HIA.out hO (by omega))
      first | replace HIB := Lib.hid (Ints.only HIB.out hO (by omega) (by omega)) | replace HIB := Lib.hid (Ints.below HIB.out hO (by omega))
      first | replace HB := Lib.hid (Below.trans HB.out (Below.mono hO (by omega))) | replace HB := Lib.hid (Below.trans HB.out (Only.below hO (by omega) (by omega)))
      clear hwf hO hu0 hu1 hv0 hv1 hp0' hp1' hq0' hq1' hpf0 hpf1 hqf0 hqf1 hvf0
      go_wp2_with fail
      have hf0 := HPf.cell (i := 0) rfl
      have hf1 := HPf.cell (i := 1) rfl
      have hf2 := HQf.cell (i := 0) rfl
      have hf3 := HQf.cell (i := 1) rfl
      refine bodyPost_ret (v := .tuple #[.slice (some ⟨rb, 0, none⟩) 3 3, .agg #[.int .i64 (1 + r1), .slice (some ⟨b1, 0, none⟩) 3 3], .agg #[.int .i64 (6 + r2), .slice (some ⟨b2, 0, none⟩) 3 3]]) (by simp [results, Try.results34, go_sem, hf0, hf1, hf2, hf3]) rfl ?_
      exact ⟨_, 3, [rx, ry, rz], 1 + r1, 6 + r2, _, 3, [c1x, c1y, c1z], _, 3, [c2x, c2y, c2z], rfl, by omega, by omega, HX.out.mono (by omega) (by omega), good3 hrx hry hrz, HIA.out.mono (by omega) (by omega), good3 c1hx c1hy c1hz, HIB.out.mono (by omega) (by omega), good3 c2hx c2hy c2hz, HB.out⟩
  · have e3' : (r3 == 0) = false := beq_eq_false_iff_ne.2 e3
    go_wp2_with fail
    refine (pick_any g (p3 + 1) 24 w9 HR.out (by omega) (by omega)).mono ?_; rintro e w10 ⟨r4, rfl, r4a, r4b, hR, hO, hs⟩
    obtain ⟨hsw10, hsw10'⟩ := le_le hs; clear hs
    replace HR := Lib.hid hR; clear hR
    first | replace HP := Lib.hid (Blk.only HP.out hO (by omega)) | replace HP := Lib.hid (Blk.below HP.out hO (by omega))
    first | replace HQ := Lib.hid (Blk.only HQ.out hO (by omega)) | replace HQ := Lib.hid (Blk.below HQ.out hO (by omega))
    first | replace HB := Lib.hid (Below.trans HB.out (Below.mono hO (by omega))) | replace HB := Lib.hid (Below.trans HB.out (Only.below hO (by omega) (by omega)))
    first | replace HX := Lib.hid (Ints.only HX.out hO (by omega) (by omega)) | replace HX := Lib.hid (Ints.below HX.out hO (by omega))
    first | replace HM := Lib.hid (Blk.only HM.out hO (by omega)) | replace HM := Lib.hid (Blk.below HM.out hO (by omega))
    first | replace HU := Lib.hid (Blk.only HU.out hO (by omega)) | replace HU := Lib.hid (Blk.below HU.out hO (by omega))
    first | replace HN := Lib.hid (Blk.only HN.out hO (by omega)) | replace HN := Lib.hid (Blk.below HN.out hO (by omega))
    first | replace HV := Lib.hid (Blk.only HV.out hO (by omega)) | replace HV := Lib.hid (Blk.below HV.out hO (by omega))
    clear hO
    by_cases e4 : r4 = 0
    · subst e4
      have hu0 := HU.out.cell (i := 0) rfl
      have hu1 := HU.out.cell (i := 1) rfl
      have hv0 := HV.out.cell (i := 0) rfl
      have hv1 := HV.out.cell (i := 1) rfl
      have hp0' := HP.out.cell (i := 0) rfl
      have hp1' := HP.out.cell (i := 1) rfl
      have hq0' := HQ.out.cell (i := 0) rfl
      have hq1' := HQ.out.cell (i := 1) rfl
      have hpf0 := HP.out.frozen 0
      have hpf1 := HP.out.frozen 1
      have hqf0 := HQ.out.frozen 0
      have hqf1 := HQ.out.frozen 1
      have hvf0 := HV.out.frozen 0
      have hn1 : w4.heap.size ≠ w.heap.size := by omega
      have hn2 : w4.heap.size ≠ w.heap.size + 1 := by omega
      have hn3 : w7.heap.size ≠ w.heap.size := by omega
      have hn4 : w7.heap.size ≠ w.heap.size + 1 := by omega
      have hn5 : w7.heap.size ≠ w4.heap.size := by omega
      have hn6 : w4.heap.size ≠ w7.heap.size := by omega
      go_wp2_with fail
      obtain ⟨w11, hw⟩ : ∃ W, W = w10.setCell ⟨w7.heap.size, 0, none⟩ (.int .i64 (1 + r1)) := ⟨_, rfl⟩
      rw [← hw]
      have hO : Only w7.heap.size (w7.heap.size + 1) w10 w11 := by rw [hw]; exact (Only.refl _ _ _).setCell (p := ⟨w7.heap.size, 0, none⟩) (Nat.le_refl _) (by simp) _
      replace HV : Hid (Blk w11 w7.heap.size 25 [.int .i64 (1 + r1), .slice (some ⟨b2, 0, none⟩) 3 3]) := Lib.hid (by rw [hw]; exact HV.out.set_ 0 _)
      have hsw11 := hO.size
      first | replace HP := Lib.hid (Blk.only HP.out hO (by omega)) | replace HP := Lib.hid (Blk.below HP.out hO (by omega))
      first | replace HQ := Lib.hid (Blk.only HQ.out hO (by omega)) | replace HQ := Lib.hid (Blk.below HQ.out hO (by omega))
      first | replace HB := Lib.hid (Below.trans HB.out (Below.mono hO (by omega))) | replace HB := Lib.hid (Below.trans HB.out (Only.below hO (by omega) (by omega)))
      first | replace HX := Lib.hid (Ints.only HX.out hO (by omega) (by omega)) | replace HX := Lib.hid (Ints.below HX.out hO (by omega))
      first | replace HM := Lib.hid (Blk.only HM.out hO (by omega)) | replace HM := Lib.hid (Blk.below HM.out hO (by omega))
      first | replace HU := Lib.hid (Blk.only HU.out hO (by omega)) | replace HU := Lib.hid (Blk.below HU.out hO (by omega))
      first | replace HN := Lib.hid (Blk.only HN.out hO (by omega)) | replace HN := Lib.hid (Blk.below HN.out hO (by omega))
      clear hO hw hu0 hu1 hv0 hv1 hp0' hp1' hq0' hq1' hpf0 hpf1 hqf0 hqf1 hvf0
      have hu0 := HU.out.cell (i := 0) rfl
      have hu1 := HU.out.cell (i := 1) rfl
      have hv0 := HV.out.cell (i := 0) rfl
      have hv1 := HV.out.cell (i := 1) rfl
      have hp0' := HP.out.cell (i := 0) rfl
      have hp1' := HP.out.cell (i := 1) rfl
      have hq0' := HQ.out.cell (i := 0) rfl
      have hq1' := HQ.out.cell (i := 1) rfl
      have hpf0 := HP.out.frozen 0
      have hpf1 := HP.out.frozen 1
      have hqf0 := HQ.out.frozen 0
      have hqf1 := HQ.out.frozen 1
      have hvf0 := HV.out.frozen 0
      go_wp2_with fail
      go_region
      obtain ⟨wf, hwf⟩ : ∃ W, W = ((((w11.setCell ⟨w.heap.size, 0, none⟩ (.int .i64 (1 + r1))).setCell ⟨w.heap.size, 1, none⟩ (.slice (some ⟨b1, 0, none⟩) 3 3)).setCell ⟨w.heap.size + 1, 0, none⟩ (.int .i64 (1 + r1))).setCell ⟨w.heap.size + 1, 1, none⟩ (.slice (some ⟨b2, 0, none⟩) 3 3)).drew := ⟨_, rfl⟩
      rw [← hwf]
      have HPf : Blk wf w.heap.size 25 [.int .i64 (1 + r1), .slice (some ⟨b1, 0, none⟩) 3 3] := by rw [hwf]; exact ((((HP.out.set_ 0 (.int .i64 (1 + r1))).set_ 1 (.slice (some ⟨b1, 0, none⟩) 3 3)).far (by simp) _).far (by simp) _).drew
      have HQf : Blk wf (w.heap.size + 1) 25 [.int .i64 (1 + r1), .slice (some ⟨b2, 0, none⟩) 3 3] := by rw [hwf]; exact ((((HQ.out.far (by simp) _).far (by simp) _).set_ 0 (.int .i64 (1 + r1))).set_ 1 (.slice (some ⟨b2, 0, none⟩) 3 3)).drew
      have hO : Only w.heap.size (w.heap.size + 2) w11 wf := by rw [hwf]; exact (((((Only.refl _ _ _).setCell (p := ⟨w.heap.size, 0, none⟩) (Nat.le_refl _) (by simp) _).setCell (p := ⟨w.heap.size, 1, none⟩) (Nat.le_refl _) (by simp) _).setCell (p := ⟨w.heap.size + 1, 0, none⟩) (by simp) (by simp) _).setCell (p := ⟨w.heap.size + 1, 1, none⟩) (by simp) (by simp) _).drew
      have hsf := hO.size
      have HIA := Lib.hid (Ints.of_blk (zs := [b1x, b1y, b1z]) HM.out (by simp [maxLen]))
      have HIB := Lib.hid (Ints.of_blk (zs := [b2x, b2y, b2z]) HN.out (by simp [maxLen]))
      first | replace HX := Lib.hid (Ints.only HX.out hO (by omega) (by omega)) | replace HX := Lib.hid (Ints.below HX.out hO (by omega))
      first | replace HIA := Lib.hid (Ints.only HIA.out hO (by omega) (by omega)) | replace HIA := Lib.hid (Ints.below HIA.out hO (by omega))
      first | replace HIB := Lib.hid (Ints.only HIB.out hO (by omega) (by omega)) | replace HIB := Lib.hid (Ints.below HIB.out hO (by omega))
      first | replace HB := Lib.hid (Below.trans HB.out (Below.mono hO (by omega))) | replace HB := Lib.hid (Below.trans HB.out (Only.below hO (by omega) (by omega)))
      clear hwf hO hu0 hu1 hv0 hv1 hp0' hp1' hq0' hq1' hpf0 hpf1 hqf0 hqf1 hvf0
      go_wp2_with fail
      have hf0 := HPf.cell (i := 0) rfl
      have hf1 := HPf.cell (i := 1) rfl
      have hf2 := HQf.cell (i := 0) rfl
      have hf3 := HQf.cell (i := 1) rfl
      refine bodyPost_ret (v := .tuple #[.slice (some ⟨rb, 0, none⟩) 3 3, .agg #[.int .i64 (1 + r1), .slice (some ⟨b1, 0, none⟩) 3 3], .agg #[.int .i64 (1 + r1), .slice (some ⟨b2, 0, none⟩) 3 3]]) (by simp [results, Try.results34, go_sem, hf0, hf1, hf2, hf3]) rfl ?_
      exact ⟨_, 3, [rx, ry, rz], 1 + r1, 1 + r1, _, 3, [b1x, b1y, b1z], _, 3, [b2x, b2y, b2z], rfl, by omega, by omega, HX.out.mono (by omega) (by omega), good3 hrx hry hrz, HIA.out.mono (by omega) (by omega), good3 b1hx b1hy b1hz, HIB.out.mono (by omega) (by omega), good3 b2hx b2hy b2hz, HB.out⟩
    · have e4' : (r4 == 0) = false := beq_eq_false_iff_ne.2 e4
      have hu0 := HU.out.cell (i := 0) rfl
      have hu1 := HU.out.cell (i := 1) rfl
      have hv0 := HV.out.cell (i := 0) rfl
      have hv1 := HV.out.cell (i := 1) rfl
      have hp0' := HP.out.cell (i := 0) rfl
      have hp1' := HP.out.cell (i := 1) rfl
      have hq0' := HQ.out.cell (i := 0) rfl
      have hq1' := HQ.out.cell (i := 1) rfl
      have hpf0 := HP.out.frozen 0
      have hpf1 := HP.out.frozen 1
      have hqf0 := HQ.out.frozen 0
      have hqf1 := HQ.out.frozen 1
      have hvf0 := HV.out.frozen 0
      have hn1 : w4.heap.size ≠ w.heap.size := by omega
      have hn2 : w4.heap.size ≠ w.heap.size + 1 := by omega
      have hn3 : w7.heap.size ≠ w.heap.size := by omega
      have hn4 : w7.heap.size ≠ w.heap.size + 1 := by omega
      have hn5 : w7.heap.size ≠ w4.heap.size := by omega
      have hn6 : w4.heap.size ≠ w7.heap.size := by omega
      go_wp2_with fail
      go_region
      obtain ⟨wf, hwf⟩ : ∃ W, W = ((((w10.setCell ⟨w.heap.size, 0, none⟩ (.int .i64 (1 + r1))).setCell ⟨w.heap.size, 1, none⟩ (.slice (some ⟨b1, 0, none⟩) 3 3)).setCell ⟨w.heap.size + 1, 0, none⟩ (.int .i64 (6 + r2))).setCell ⟨w.heap.size + 1, 1, none⟩ (.slice (some ⟨b2, 0, none⟩) 3 3)).drew := ⟨_, rfl⟩
      rw [← hwf]
      have HPf : Blk wf w.heap.size 25 [.int .i64 (1 + r1), .slice (some ⟨b1, 0, none⟩) 3 3] := by rw [hwf]; exact ((((HP.out.set_ 0 (.int .i64 (1 + r1))).set_ 1 (.slice (some ⟨b1, 0, none⟩) 3 3)).far (by simp) _).far (by simp) _).drew
      have HQf : Blk wf (w.heap.size + 1) 25 [.int .i64 (6 + r2), .slice (some ⟨b2, 0, none⟩) 3 3] := by rw [hwf]; exact ((((HQ.out.far (by simp) _).far (by simp) _).set_ 0 (.int .i64 (6 + r2))).set_ 1 (.slice (some ⟨b2, 0, none⟩) 3 3)).drew
      have hO : Only w.heap.size (w.heap.size + 2) w10 wf := by rw [hwf]; exact (((((Only.refl _ _ _).setCell (p := ⟨w.heap.size, 0, none⟩) (Nat.le_refl _) (by simp) _).setCell (p := ⟨w.heap.size, 1, none⟩) (Nat.le_refl _) (by simp) _).setCell (p := ⟨w.heap.size + 1, 0, none⟩) (by simp) (by simp) _).setCell (p := ⟨w.heap.size + 1, 1, none⟩) (by simp) (by simp) _).drew
      have hsf := hO.size
      have HIA := Lib.hid (Ints.of_blk (zs := [b1x, b1y, b1z]) HM.out (by simp [maxLen]))
      have HIB := Lib.hid (Ints.of_blk (zs := [b2x, b2y, b2z]) HN.out (by simp [maxLen]))
      first | replace HX := Lib.hid (Ints.only HX.out hO (by omega) (by omega)) | replace HX := Lib.hid (Ints.below HX.out hO (by omega))
      first | replace HIA := Lib.hid (Ints.only HIA.out hO (by omega) (by omega)) | replace HIA := Lib.hid (Ints.below HIA.out hO (by omega))
      first | replace HIB := Lib.hid (Ints.only HIB.out hO (by omega) (by omega)) | replace HIB := Lib.hid (Ints.below HIB.out hO (by omega))
      first | replace HB := Lib.hid (Below.trans HB.out (Below.mono hO (by omega))) | replace HB := Lib.hid (Below.trans HB.out (Only.below hO (by omega) (by omega)))
      clear hwf hO hu0 hu1 hv0 hv1 hp0' hp1' hq0' hq1' hpf0 hpf1 hqf0 hqf1 hvf0
      go_wp2_with fail
      have hf0 := HPf.cell (i := 0) rfl
      have hf1 := HPf.cell (i := 1) rfl
      have hf2 := HQf.cell (i := 0) rfl
      have hf3 := HQf.cell (i := 1) rfl
      refine bodyPost_ret (v := .tuple #[.slice (some ⟨rb, 0, none⟩) 3 3, .agg #[.int .i64 (1 + r1), .slice (some ⟨b1, 0, none⟩) 3 3], .agg #[.int .i64 (6 + r2), .slice (some ⟨b2, 0, none⟩) 3 3]]) (by simp [results, Try.results34, go_sem, hf0, hf1, hf2, hf3]) rfl ?_
      exact ⟨_, 3, [rx, ry, rz], 1 + r1, 6 + r2, _, 3, [b1x, b1y, b1z], _, 3, [b2x, b2y, b2z], rfl, by omega, by omega, HX.out.mono (by omega) (by omega), good3 hrx hry hrz, HIA.out.mono (by omega) (by omega), good3 b1hx b1hy b1hz, HIB.out.mono (by omega) (by omega), good3 b2hx b2hy b2hz, HB.out⟩
end Go.Proofs.Ythfhlcmgeacddaa
