/- The walk of one statement: by the contracts of what it calls it returns true and changes nothing that was there. No condition. -/
import Derived.Test.YtojbljaleconpaaDq
import Derived.Test.YtojbljaleconpaaRq
namespace Go.Proofs.Ytojbljaleconpaa
open Go.RowKit
theorem req_num (kind id : Int) (need : List Int) (gr : Bool) : reqB kind id need gr (-1) = false := by
  simp only [reqB, bareB, inB]
  split
  · simp
  · repeat' split
    all_goals simp
theorem req_kind (id : Int) (need : List Int) (gr : Bool) (num : Int) : reqB 0 id need gr num = false := by simp [reqB]
set_option maxHeartbeats 1000000 in
theorem FnRequestPart_walk (A : Option Addr) (n c : Nat) (w : World) (hA : BytesR w w.heap.size A n) (hc : n ≤ c) (hm : c ≤ maxLen) :
    Calls Try.prog 10 #[.slice A n c] w fun e w' => e = .returned (.bool true) ∧ Below w.heap.size w w' := by
  have HA := Lib.hid hA; clear hA
  by_cases hn : 1048576 < n
  · go_enter Try.func10, Try.ntmps10
    go_wp2
    go_ret
    exact ⟨by simp, Below.refl _ _⟩
  have hnd : ¬ ((1048576 : Int) < (n : Int)) := by omega
  go_enter Try.func10, Try.ntmps10
  go_wp2_with fail
  refine (DrawRequestValid_any A n c w HA.out hc hm).mono ?_; rintro e w1 ⟨kind, id, A1, c1, ys, gr, num, rfl, hI, hl, hb⟩
  have hs1 := hb.size
  obtain ⟨w2, hw2⟩ : ∃ W, W = w1.alloc (.cells #[.int .i64 kind, .int .i64 id, .slice A1 ys.length c1, .bool gr, .int .i64 num] 46) := ⟨_, rfl⟩
  have HW2 := Lib.hid hw2
  have hb2 : Below w1.heap.size w1 w2 := by rw [hw2]; exact (Below.refl _ _).alloc (Nat.le_refl _) _
  have hs2 : w1.heap.size + 1 ≤ w2.heap.size := by rw [hw2]; simp
  have HX : Hid (Blk w2 w1.heap.size 46 [.int .i64 kind, .int .i64 id, .slice A1 ys.length c1, .bool gr, .int .i64 num]) := Lib.hid (by rw [hw2]; exact Blk.new w1 _ _)
  have HI := Lib.hid (hI.below hb2 (Nat.le_refl _))
  have HB := Lib.hid (hb.trans (hb2.mono hs1))
  clear hI hb hb2 hw2
  obtain ⟨v, hv⟩ : ∃ v, reqB kind id ys gr num = v := ⟨_, rfl⟩
  have HV := Lib.hid hv; clear hv
  have hle : ys.length ≤ 1048576 := by omega
  go_wp2_with fail
  rw [← HW2.out]
  clear HW2
  refine (reqValid_any kind id num A1 c1 _ _ ys gr w2 HI.out hle (by omega)).mono ?_; rintro e w3 ⟨rfl, hb⟩
  rw [HV.out]
  have hs3 := hb.size
  first | replace HI := Lib.hid (Ints.only HI.out hb (by omega) (by omega)) | replace HI := Lib.hid (Ints.below HI.out hb (by omega))
  first | replace HX := Lib.hid (Blk.only HX.out hb (by omega)) | replace HX := Lib.hid (Blk.below HX.out hb (by omega))
  first | replace HB := Lib.hid (Below.trans HB.out (Below.mono hb (by omega))) | replace HB := Lib.hid (Below.trans HB.out (Only.below hb (by omega) (by omega)))
  clear hb
  have x0 := HX.out.cell (i := 0) rfl
  have x1 := HX.out.cell (i := 1) rfl
  have x2 := HX.out.cell (i := 2) rfl
  have x3 := HX.out.cell (i := 3) rfl
  have x4 := HX.out.cell (i := 4) rfl
  go_wp2_with fail
  refine (reqValidS_any kind id num A1 c1 _ _ ys gr w3 HI.out hle (by omega)).mono ?_; rintro e w4 ⟨rfl, hb⟩
  rw [HV.out]
  have hs4 := hb.size
  first | replace HI := Lib.hid (Ints.only HI.out hb (by omega) (by omega)) | replace HI := Lib.hid (Ints.below HI.out hb (by omega))
  first | replace HX := Lib.hid (Blk.only HX.out hb (by omega)) | replace HX := Lib.hid (Blk.below HX.out hb (by omega))
  first | replace HB := Lib.hid (Below.trans HB.out (Below.mono hb (by omega))) | replace HB := Lib.hid (Below.trans HB.out (Only.below hb (by omega) (by omega)))
  clear hb x0 x1 x2 x3 x4
  cases v
  · go_wp2_with fail
    go_ret
    exact ⟨by simp, HB.out⟩
  have x0 := HX.out.cell (i := 0) rfl
  have x1 := HX.out.cell (i := 1) rfl
  have x2 := HX.out.cell (i := 2) rfl
  have x3 := HX.out.cell (i := 3) rfl
  have x4 := HX.out.cell (i := 4) rfl
  have hlt14 : w1.heap.size < w4.heap.size := by omega
  have hne14 : w1.heap.size ≠ w4.heap.size := by omega
  go_wp2_with fail
  obtain ⟨w5, hw5⟩ : ∃ W, W = (w4.alloc (.cells #[.int .i64 kind, .int .i64 id, .slice A1 ys.length c1, .bool gr, .int .i64 (-1)] 46)).alloc (.cells #[.int .i64 0, .int .i64 id, .slice A1 ys.length c1, .bool gr, .int .i64 num] 46) := ⟨_, rfl⟩
  rw [← hw5]
  have hb5 : Below w4.heap.size w4 w5 := by rw [hw5]; exact ((Below.refl _ _).alloc (Nat.le_refl _) _).alloc (by simp) _
  have hs5 : w4.heap.size + 2 ≤ w5.heap.size := by rw [hw5]; simp
  have HY : Hid (Blk w5 (w4.heap.size + 1) 46 [.int .i64 0, .int .i64 id, .slice A1 ys.length c1, .bool gr, .int .i64 num]) := Lib.hid (by
    rw [hw5]
    have := Blk.new (w4.alloc (.cells #[.int .i64 kind, .int .i64 id, .slice A1 ys.length c1, .bool gr, .int .i64 (-1)] 46)) 46 [.int .i64 0, .int .i64 id, .slice A1 ys.length c1, .bool gr, .int .i64 num]
    simpa using this)
  first | replace HI := Lib.hid (Ints.only HI.out hb5 (by omega) (by omega)) | replace HI := Lib.hid (Ints.below HI.out hb5 (by omega))
  first | replace HB := Lib.hid (Below.trans HB.out (Below.mono hb5 (by omega))) | replace HB := Lib.hid (Below.trans HB.out (Only.below hb5 (by omega) (by omega)))
  clear hb5 hw5 x0 x1 x2 x3 x4 hlt14 hne14
  refine (reqValid_any kind id (-1) A1 c1 _ _ ys gr w5 HI.out hle (by omega)).mono ?_; rintro e w6 ⟨rfl, hb⟩
  rw [req_num]
  have hs6 := hb.size
  first | replace HI := Lib.hid (Ints.only HI.out hb (by omega) (by omega)) | replace HI := Lib.hid (Ints.below HI.out hb (by omega))
  first | replace HB := Lib.hid (Below.trans HB.out (Below.mono hb (by omega))) | replace HB := Lib.hid (Below.trans HB.out (Only.below hb (by omega) (by omega)))
  first | replace HY := Lib.hid (Blk.only HY.out hb (by omega)) | replace HY := Lib.hid (Blk.below HY.out hb (by omega))
  clear hb
  have x0 := HY.out.cell (i := 0) rfl
  have x1 := HY.out.cell (i := 1) rfl
  have x2 := HY.out.cell (i := 2) rfl
  have x3 := HY.out.cell (i := 3) rfl
  have x4 := HY.out.cell (i := 4) rfl
  go_wp2_with fail
  refine (reqValid_any 0 id num A1 c1 _ _ ys gr w6 HI.out hle (by omega)).mono ?_; rintro e w7 ⟨rfl, hb⟩
  rw [req_kind]
  first | replace HB := Lib.hid (Below.trans HB.out (Below.mono hb (by omega))) | replace HB := Lib.hid (Below.trans HB.out (Only.below hb (by omega) (by omega)))
  clear hb x0 x1 x2 x3 x4
  go_wp2_with fail
  go_ret
  exact ⟨by simp, HB.out⟩
end Go.Proofs.Ytojbljaleconpaa
