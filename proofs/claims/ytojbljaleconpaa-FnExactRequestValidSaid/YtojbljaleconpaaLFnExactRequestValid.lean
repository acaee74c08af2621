/- The walk of one exact statement: by the contracts of what it calls it returns true and changes nothing that was there. No condition. -/
import Derived.Test.YtojbljaleconpaaRz
import Derived.Test.YtojbljaleconpaaRq
namespace Go.Proofs.Ytojbljaleconpaa
open Go.RowKit
set_option maxHeartbeats 2000000 in
theorem FnExactRequestValid_walk (kind i : Int) (A : Option Addr) (c : Nat) (ys : List Int) (gr : Bool) (num : Int) (w : World) (hA : IntsR w w.heap.size A ys) (hma : ys.length ≤ maxLen) :
    Calls Try.prog 11 #[.agg #[.int .i64 kind, .int .i64 i, .slice A ys.length c, .bool gr, .int .i64 num]] w fun e w' => e = .returned (.bool true) ∧ Below w.heap.size w w' := by
  have HA := Lib.hid hA; clear hA
  obtain ⟨w0, hw0⟩ : ∃ W, W = w.alloc (.cells #[.int .i64 kind, .int .i64 i, .slice A ys.length c, .bool gr, .int .i64 num] 51) := ⟨_, rfl⟩
  have HW0 := Lib.hid hw0
  have hb0 : Below w.heap.size w w0 := by rw [hw0]; exact (Below.refl _ _).alloc (Nat.le_refl _) _
  have hs0 : w.heap.size + 1 ≤ w0.heap.size := by rw [hw0]; simp
  have HX : Hid (Blk w0 w.heap.size 51 [.int .i64 kind, .int .i64 i, .slice A ys.length c, .bool gr, .int .i64 num]) := Lib.hid (by rw [hw0]; exact Blk.new w _ _)
  have HB := Lib.hid hb0
  replace HA := Lib.hid (HA.out.below hb0 (Nat.le_refl _))
  clear hw0 hb0
  obtain ⟨u, hu⟩ : ∃ u, szv 1048576 ys.length = u := ⟨_, rfl⟩
  have h5 := szRequest_any kind i num gr A ys.length c 1048576 w0 (by omega) hma
  rw [hu] at h5
  have H5 := Lib.hid h5
  have HU := Lib.hid hu
  clear h5 hu hma
  go_enter Try.func11, Try.ntmps11
  go_wp2_with fail
  rw [← HW0.out]
  refine H5.out.mono ?_; rintro e w1 ⟨rfl, hb⟩
  have hs1 := hb.size
  first | replace HA := Lib.hid (IntsR.below HA.out hb (by omega)) | replace HA := Lib.hid (IntsR.below HA.out (Only.below hb (by omega) (by omega)) (by omega))
  first | replace HX := Lib.hid (Blk.only HX.out hb (by omega)) | replace HX := Lib.hid (Blk.below HX.out hb (by omega))
  first | replace HB := Lib.hid (Below.trans HB.out (Below.mono hb (by omega))) | replace HB := Lib.hid (Below.trans HB.out (Only.below hb (by omega) (by omega)))
  clear hb H5
  by_cases hu0 : u < 0
  · go_wp2_with fail
    go_ret
    exact ⟨by simp, HB.out⟩
  have hle : ys.length ≤ 1048576 := by
    have := (szv_hi (left := 1048576) (n := ys.length) (by rw [HU.out]; exact hu0)).2
    omega
  clear HU
  obtain ⟨v, hv⟩ : ∃ v, reqB kind i ys gr num = v := ⟨_, rfl⟩
  have HVv := Lib.hid hv; clear hv
  have hx0 := HX.out.cell (i := 0) rfl
  have hx1 := HX.out.cell (i := 1) rfl
  have hx2 := HX.out.cell (i := 2) rfl
  have hx3 := HX.out.cell (i := 3) rfl
  have hx4 := HX.out.cell (i := 4) rfl
  go_wp2_with fail
  refine (toRequest_any kind i num gr A c _ ys w1 HA.out hle (by omega)).mono ?_; rintro e w2 ⟨A2, c2, rfl, hI, hb⟩
  have hs2 := hb.size
  first | replace HA := Lib.hid (IntsR.below HA.out hb (by omega)) | replace HA := Lib.hid (IntsR.below HA.out (Only.below hb (by omega) (by omega)) (by omega))
  first | replace HX := Lib.hid (Blk.only HX.out hb (by omega)) | replace HX := Lib.hid (Blk.below HX.out hb (by omega))
  first | replace HB := Lib.hid (Below.trans HB.out (Below.mono hb (by omega))) | replace HB := Lib.hid (Below.trans HB.out (Only.below hb (by omega) (by omega)))
  clear hb
  have HI1 := Lib.hid hI; clear hI hx0 hx1 hx2 hx3 hx4
  have hx0 := HX.out.cell (i := 0) rfl
  have hx1 := HX.out.cell (i := 1) rfl
  have hx2 := HX.out.cell (i := 2) rfl
  have hx3 := HX.out.cell (i := 3) rfl
  have hx4 := HX.out.cell (i := 4) rfl
  go_wp2_with fail
  refine (reqValidS_any kind i num A2 c2 _ _ ys gr w2 HI1.out hle (Nat.le_refl _)).mono ?_; rintro e w3 ⟨rfl, hb⟩
  rw [HVv.out]
  have hs3 := hb.size
  first | replace HA := Lib.hid (IntsR.below HA.out hb (by omega)) | replace HA := Lib.hid (IntsR.below HA.out (Only.below hb (by omega) (by omega)) (by omega))
  first | replace HX := Lib.hid (Blk.only HX.out hb (by omega)) | replace HX := Lib.hid (Blk.below HX.out hb (by omega))
  first | replace HB := Lib.hid (Below.trans HB.out (Below.mono hb (by omega))) | replace HB := Lib.hid (Below.trans HB.out (Only.below hb (by omega) (by omega)))
  clear hb HI1 hx0 hx1 hx2 hx3 hx4
  have hx0 := HX.out.cell (i := 0) rfl
  have hx1 := HX.out.cell (i := 1) rfl
  have hx2 := HX.out.cell (i := 2) rfl
  have hx3 := HX.out.cell (i := 3) rfl
  have hx4 := HX.out.cell (i := 4) rfl
  go_wp2_with fail
  refine (toRequest_any kind i num gr A c _ ys w3 HA.out hle (by omega)).mono ?_; rintro e w4 ⟨A4, c4, rfl, hI, hb⟩
  have hs4 := hb.size
  first | replace HA := Lib.hid (IntsR.below HA.out hb (by omega)) | replace HA := Lib.hid (IntsR.below HA.out (Only.below hb (by omega) (by omega)) (by omega))
  first | replace HX := Lib.hid (Blk.only HX.out hb (by omega)) | replace HX := Lib.hid (Blk.below HX.out hb (by omega))
  first | replace HB := Lib.hid (Below.trans HB.out (Below.mono hb (by omega))) | replace HB := Lib.hid (Below.trans HB.out (Only.below hb (by omega) (by omega)))
  clear hb
  have HI2 := Lib.hid hI; clear hI hx0 hx1 hx2 hx3 hx4
  obtain ⟨w5, hw5⟩ : ∃ W, W = w4.alloc (.cells #[.int .i64 kind, .int .i64 i, .slice A4 ys.length c4, .bool gr, .int .i64 num] 46) := ⟨_, rfl⟩
  have HW5 := Lib.hid hw5
  have hb5 : Below w4.heap.size w4 w5 := by rw [hw5]; exact (Below.refl _ _).alloc (Nat.le_refl _) _
  have hs5 : w4.heap.size + 1 ≤ w5.heap.size := by rw [hw5]; simp
  have HY : Hid (Blk w5 w4.heap.size 46 [.int .i64 kind, .int .i64 i, .slice A4 ys.length c4, .bool gr, .int .i64 num]) := Lib.hid (by rw [hw5]; exact Blk.new w4 _ _)
  clear hw5
  first | replace HA := Lib.hid (IntsR.below HA.out hb5 (by omega)) | replace HA := Lib.hid (IntsR.below HA.out (Only.below hb5 (by omega) (by omega)) (by omega))
  first | replace HX := Lib.hid (Blk.only HX.out hb5 (by omega)) | replace HX := Lib.hid (Blk.below HX.out hb5 (by omega))
  first | replace HB := Lib.hid (Below.trans HB.out (Below.mono hb5 (by omega))) | replace HB := Lib.hid (Below.trans HB.out (Only.below hb5 (by omega) (by omega)))
  first | replace HI2 := Lib.hid (Ints.only HI2.out hb5 (by omega) (by omega)) | replace HI2 := Lib.hid (Ints.below HI2.out hb5 (by omega))
  clear hb5
  go_wp2_with fail
  rw [← HW5.out]
  refine (reqValid_any kind i num A4 c4 _ _ ys gr w5 HI2.out hle (by omega)).mono ?_; rintro e w6 ⟨rfl, hb⟩
  rw [HVv.out]
  have hs6 := hb.size
  first | replace HA := Lib.hid (IntsR.below HA.out hb (by omega)) | replace HA := Lib.hid (IntsR.below HA.out (Only.below hb (by omega) (by omega)) (by omega))
  first | replace HX := Lib.hid (Blk.only HX.out hb (by omega)) | replace HX := Lib.hid (Blk.below HX.out hb (by omega))
  first | replace HB := Lib.hid (Below.trans HB.out (Below.mono hb (by omega))) | replace HB := Lib.hid (Below.trans HB.out (Only.below hb (by omega) (by omega)))
  first | replace HI2 := Lib.hid (Ints.only HI2.out hb (by omega) (by omega)) | replace HI2 := Lib.hid (Ints.below HI2.out hb (by omega))
  first | replace HY := Lib.hid (Blk.only HY.out hb (by omega)) | replace HY := Lib.hid (Blk.below HY.out hb (by omega))
  clear hb
  have hx0 := HX.out.cell (i := 0) rfl
  have hx1 := HX.out.cell (i := 1) rfl
  have hx2 := HX.out.cell (i := 2) rfl
  have hx3 := HX.out.cell (i := 3) rfl
  have hx4 := HX.out.cell (i := 4) rfl
  have hy0 := HY.out.cell (i := 0) rfl
  have hy1 := HY.out.cell (i := 1) rfl
  have hy2 := HY.out.cell (i := 2) rfl
  have hy3 := HY.out.cell (i := 3) rfl
  have hy4 := HY.out.cell (i := 4) rfl
  go_wp2_with fail
  replace HX : Hid (Blk w6.drew w.heap.size 51 [.int .i64 kind, .int .i64 i, .slice A ys.length c, .bool gr, .int .i64 num]) := Lib.hid HX.out
  replace HY : Hid (Blk w6.drew w4.heap.size 46 [.int .i64 kind, .int .i64 i, .slice A4 ys.length c4, .bool gr, .int .i64 num]) := Lib.hid HY.out
  have HA7 : Hid (IntsR w6.drew w.heap.size A ys) := Lib.hid HA.out
  replace HB : Hid (Below w.heap.size w w6.drew) := Lib.hid (Below.drewN HB.out 1)
  replace HI2 : Hid (Ints w6.drew w3.heap.size w4.heap.size A4 c4 ys) := Lib.hid HI2.out
  have hdr : w.heap.size ≤ w6.drew.heap.size := by show w.heap.size ≤ w6.heap.size; omega
  have H7 := Lib.hid (toRequest_any kind i num gr A c _ ys w6.drew HA7.out hle hdr)
  go_region_held3 (fun w' => w'.cell? ⟨w.heap.size, 0, none⟩ = some (.int .i64 kind) ∧ w'.cell? ⟨w.heap.size, 1, none⟩ = some (.int .i64 i) ∧ w'.cell? ⟨w.heap.size, 2, none⟩ = some (.slice A ys.length c) ∧ w'.cell? ⟨w.heap.size, 3, none⟩ = some (.bool gr) ∧ w'.cell? ⟨w.heap.size, 4, none⟩ = some (.int .i64 num) ∧ w'.cell? ⟨w4.heap.size, 0, none⟩ = some (.int .i64 kind) ∧ w'.cell? ⟨w4.heap.size, 1, none⟩ = some (.int .i64 i) ∧ w'.cell? ⟨w4.heap.size, 2, none⟩ = some (.slice A4 ys.length c4) ∧ w'.cell? ⟨w4.heap.size, 3, none⟩ = some (.bool gr) ∧ w'.cell? ⟨w4.heap.size, 4, none⟩ = some (.int .i64 num))
    (go_keep)
    (first
      | (go_at_call 36; refine H7.out.mono ?_; rintro e w7 ⟨A7, c7, rfl, hI7, hb7⟩; replace HX := Lib.hid (HX.out.below hb7 (show w.heap.size < w6.drew.heap.size by show w.heap.size < w6.heap.size; omega)); replace HY := Lib.hid (HY.out.below hb7 (show w4.heap.size < w6.drew.heap.size by show w4.heap.size < w6.heap.size; omega)); replace HI2 := Lib.hid (HI2.out.below hb7 (show w4.heap.size ≤ w6.drew.heap.size by show w4.heap.size ≤ w6.heap.size; omega)); replace HB := Lib.hid (HB.out.trans (hb7.mono (show w.heap.size ≤ w6.drew.heap.size by show w.heap.size ≤ w6.heap.size; omega))); have hs7 : w6.heap.size ≤ w7.heap.size := hb7.size; have HI7 := Lib.hid (hI7.mono (show 0 ≤ _ from Nat.zero_le _) (Nat.le_refl _)); have gx0 := HX.out.cell (i := 0) rfl; have gx1 := HX.out.cell (i := 1) rfl; have gx2 := HX.out.cell (i := 2) rfl; have gx3 := HX.out.cell (i := 3) rfl; have gx4 := HX.out.cell (i := 4) rfl; have gy0 := HY.out.cell (i := 0) rfl; have gy1 := HY.out.cell (i := 1) rfl; have gy2 := HY.out.cell (i := 2) rfl; have gy3 := HY.out.cell (i := 3) rfl; have gy4 := HY.out.cell (i := 4) rfl; clear hb7 hI7)
      | (go_at_call 37; refine (eqRequest_eq kind i num gr A4 A7 c4 c7 _ _ _ _ ys w7 HI2.out HI7.out (by omega) (by omega) (Nat.le_refl _)).mono ?_; rintro e w8 ⟨rfl, hb8⟩; replace HX := Lib.hid (HX.out.below hb8 (by omega)); replace HY := Lib.hid (HY.out.below hb8 (by omega)); replace HB := Lib.hid (HB.out.trans (hb8.mono (by omega))); have kx0 := HX.out.cell (i := 0) rfl; have kx1 := HX.out.cell (i := 1) rfl; have kx2 := HX.out.cell (i := 2) rfl; have kx3 := HX.out.cell (i := 3) rfl; have kx4 := HX.out.cell (i := 4) rfl; have ky0 := HY.out.cell (i := 0) rfl; have ky1 := HY.out.cell (i := 1) rfl; have ky2 := HY.out.cell (i := 2) rfl; have ky3 := HY.out.cell (i := 3) rfl; have ky4 := HY.out.cell (i := 4) rfl; clear hb8))
  go_wp2_with fail
  go_ret
  exact ⟨by simp, HB.out⟩
end Go.Proofs.Ytojbljaleconpaa
