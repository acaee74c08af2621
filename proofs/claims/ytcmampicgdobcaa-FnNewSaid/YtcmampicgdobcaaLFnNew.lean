/- The walk of one statement: by the contracts of what it calls it returns true and changes nothing that was there. No condition. -/
import Derived.Test.YtcmampicgdobcaaCw
namespace Go.Proofs.Ytcmampicgdobcaa
open Go.RowKit
set_option maxHeartbeats 2000000 in
theorem FnNew_walk (A : Option Addr) (n c : Nat) (w : World) (hA : BytesR w w.heap.size A n) (hc : n ≤ c) (hm : c ≤ maxLen) :
    Calls Try.prog 3 #[.slice A n c] w fun e w' => e = .returned (.bool true) ∧ Below w.heap.size w w' := by
  have HA := Lib.hid hA; clear hA
  by_cases hn : 1048576 < n
  · go_enter Try.func3, Try.ntmps3
    go_wp2
    go_ret
    exact ⟨by simp, Below.refl _ _⟩
  have hnd : ¬ ((1048576 : Int) < (n : Int)) := by omega
  go_enter Try.func3, Try.ntmps3
  go_wp2_with fail
  refine (DrawClusterNew_any A n c w HA.out hc hm).mono ?_; rintro e w1 ⟨b, x, y, z, nodes, rfl, hI, hnb, hb⟩
  have hs1 := hb.size
  have HI := Lib.hid hI
  have HB := Lib.hid hb
  clear hI hb
  obtain ⟨zs, hzs⟩ : ∃ q, newRoom [x, y, z] nodes = q := ⟨_, rfl⟩
  obtain ⟨m, hmm⟩ : ∃ q, newMany [x, y, z] nodes = q := ⟨_, rfl⟩
  obtain ⟨ok, hok⟩ : ∃ q, newOk [x, y, z] nodes = q := ⟨_, rfl⟩
  have hzl : zs.length ≤ 3 := by rw [← hzs]; exact newRoom_len.1
  have hml : m ≤ 10 := by rw [← hmm]; exact newRoom_len.2
  have HZS := Lib.hid hzs
  have HM := Lib.hid hmm
  have HOK := Lib.hid hok
  clear hzs hmm hok
  go_wp2_with fail
  have h5 := clusterNew_any (some ⟨b, 0, none⟩) 3 _ _ [x, y, z] nodes w1 HI.out (by simp) (by omega)
  rw [HZS.out, HM.out, HOK.out] at h5
  have H5 := Lib.hid h5; clear h5
  refine H5.out.mono ?_; rintro e w2 ⟨A2, c2, B2, d2, l2, h2, m2, k2, rfl, hI2, hU2, _, ⟨hp2, hq2, hr2, ht2⟩, hb⟩
  clear H5
  have hs2 := hb.size
  first | replace HI := Lib.hid (Ints.only HI.out hb (by omega) (by omega)) | replace HI := Lib.hid (Ints.below HI.out hb (by omega))
  first | replace HB := Lib.hid (Below.trans HB.out (Below.mono hb (by omega))) | replace HB := Lib.hid (Below.trans HB.out (Only.below hb (by omega) (by omega)))
  clear hb
  obtain ⟨v2, hv2⟩ : ∃ W, W = w2.alloc (.cells #[.slice A2 zs.length c2, .slice B2 m d2] 28) := ⟨_, rfl⟩
  have HV2 := Lib.hid hv2
  have hb : Below w2.heap.size w2 v2 := by rw [hv2]; exact alloc_belowC w2 _
  have hsv2 : w2.heap.size + 1 ≤ v2.heap.size := by rw [hv2]; simp
  have HXG : Hid (Blk v2 w2.heap.size 28 [.slice A2 zs.length c2, .slice B2 m d2]) := Lib.hid (by rw [hv2]; exact Blk.new w2 _ [.slice A2 zs.length c2, .slice B2 m d2])
  have HIG := Lib.hid (hI2.below hb hq2)
  have HUG := Lib.hid (hU2.below hb ht2)
  first | replace HI := Lib.hid (Ints.only HI.out hb (by omega) (by omega)) | replace HI := Lib.hid (Ints.below HI.out hb (by omega))
  first | replace HB := Lib.hid (Below.trans HB.out (Below.mono hb (by omega))) | replace HB := Lib.hid (Below.trans HB.out (Only.below hb (by omega) (by omega)))
  clear hb hv2 hI2 hU2
  go_wp2_with fail
  rw [← HV2.out]
  clear HV2
  have h5 := clusterNewS_any (some ⟨b, 0, none⟩) 3 _ _ [x, y, z] nodes v2 HI.out (by simp) (by omega)
  rw [HZS.out, HM.out, HOK.out] at h5
  have H5 := Lib.hid h5; clear h5
  refine H5.out.mono ?_; rintro e w3 ⟨A3, c3, B3, d3, l3, h3, m3, k3, rfl, hI3, hU3, _, ⟨hp3, hq3, hr3, ht3⟩, hb⟩
  clear H5
  have hs3 := hb.size
  first | replace HI := Lib.hid (Ints.only HI.out hb (by omega) (by omega)) | replace HI := Lib.hid (Ints.below HI.out hb (by omega))
  first | replace HB := Lib.hid (Below.trans HB.out (Below.mono hb (by omega))) | replace HB := Lib.hid (Below.trans HB.out (Only.below hb (by omega) (by omega)))
  first | replace HXG := Lib.hid (Blk.only HXG.out hb (by omega)) | replace HXG := Lib.hid (Blk.below HXG.out hb (by omega))
  first | replace HIG := Lib.hid (Ints.only HIG.out hb (by omega) (by omega)) | replace HIG := Lib.hid (Ints.below HIG.out hb (by omega))
  first | replace HUG := Lib.hid (Units.only HUG.out hb (by omega) (by omega)) | replace HUG := Lib.hid (Units.below HUG.out hb (by omega))
  clear hb
  have yG0 := HXG.out.cell (i := 0) rfl
  have yG1 := HXG.out.cell (i := 1) rfl
  have hlt3 : w2.heap.size < w3.heap.size := by omega
  have hne3 : w2.heap.size ≠ w3.heap.size := by omega
  obtain ⟨v3, hv3⟩ : ∃ W, W = w3.alloc (.cells #[.slice A3 zs.length c3, .slice B3 m d3] 28) := ⟨_, rfl⟩
  have HV3 := Lib.hid hv3
  have hb : Below w3.heap.size w3 v3 := by rw [hv3]; exact alloc_belowC w3 _
  have hsv3 : w3.heap.size + 1 ≤ v3.heap.size := by rw [hv3]; simp
  have HXS : Hid (Blk v3 w3.heap.size 28 [.slice A3 zs.length c3, .slice B3 m d3]) := Lib.hid (by rw [hv3]; exact Blk.new w3 _ [.slice A3 zs.length c3, .slice B3 m d3])
  have HIS := Lib.hid (hI3.below hb hq3)
  have HUS := Lib.hid (hU3.below hb ht3)
  first | replace HI := Lib.hid (Ints.only HI.out hb (by omega) (by omega)) | replace HI := Lib.hid (Ints.below HI.out hb (by omega))
  first | replace HB := Lib.hid (Below.trans HB.out (Below.mono hb (by omega))) | replace HB := Lib.hid (Below.trans HB.out (Only.below hb (by omega) (by omega)))
  first | replace HXG := Lib.hid (Blk.only HXG.out hb (by omega)) | replace HXG := Lib.hid (Blk.below HXG.out hb (by omega))
  first | replace HIG := Lib.hid (Ints.only HIG.out hb (by omega) (by omega)) | replace HIG := Lib.hid (Ints.below HIG.out hb (by omega))
  first | replace HUG := Lib.hid (Units.only HUG.out hb (by omega) (by omega)) | replace HUG := Lib.hid (Units.below HUG.out hb (by omega))
  clear hb hv3 hI3 hU3
  have hokn : (ok != ok) = false := by simp
  have hoke : (ok == ok) = true := by simp
  cases ok
  · go_wp2_with fail
    rw [← HV3.out]
    clear HV3 yG0 yG1 hne3
    refine (sameCluster_eq A2 B2 A3 B3 c2 d2 c3 d3 m _ _ _ _ _ _ _ _ zs _ v3 HIG.out HUG.out HIS.out HUS.out (by omega) (by omega) (by omega) (by omega) (by omega) (by omega)).mono ?_; rintro e w4 ⟨rfl, hb⟩
    have hs4 := hb.size
    first | replace HB := Lib.hid (Below.trans HB.out (Below.mono hb (by omega))) | replace HB := Lib.hid (Below.trans HB.out (Only.below hb (by omega) (by omega)))
    first | replace HXG := Lib.hid (Blk.only HXG.out hb (by omega)) | replace HXG := Lib.hid (Blk.below HXG.out hb (by omega))
    first | replace HIG := Lib.hid (Ints.only HIG.out hb (by omega) (by omega)) | replace HIG := Lib.hid (Ints.below HIG.out hb (by omega))
    first | replace HUG := Lib.hid (Units.only HUG.out hb (by omega) (by omega)) | replace HUG := Lib.hid (Units.below HUG.out hb (by omega))
    first | replace HXS := Lib.hid (Blk.only HXS.out hb (by omega)) | replace HXS := Lib.hid (Blk.below HXS.out hb (by omega))
    first | replace HIS := Lib.hid (Ints.only HIS.out hb (by omega) (by omega)) | replace HIS := Lib.hid (Ints.below HIS.out hb (by omega))
    first | replace HUS := Lib.hid (Units.only HUS.out hb (by omega) (by omega)) | replace HUS := Lib.hid (Units.below HUS.out hb (by omega))
    clear hb
    have xG0 := HXG.out.cell (i := 0) rfl
    have xG1 := HXG.out.cell (i := 1) rfl
    have xS0 := HXS.out.cell (i := 0) rfl
    have xS1 := HXS.out.cell (i := 1) rfl
    go_wp2_with fail
    refine (sameCluster_eq A2 B2 A3 B3 c2 d2 c3 d3 m _ _ _ _ _ _ _ _ zs _ w4 HIG.out HUG.out HIS.out HUS.out (by omega) (by omega) (by omega) (by omega) (by omega) (by omega)).mono ?_; rintro e w5 ⟨rfl, hb⟩
    first | replace HB := Lib.hid (Below.trans HB.out (Below.mono hb (by omega))) | replace HB := Lib.hid (Below.trans HB.out (Only.below hb (by omega) (by omega)))
    clear hb
    go_wp2_with fail
    go_ret
    exact ⟨by simp, HB.out⟩
  have hko := HOK.out
  have HZR : Hid (zs = [x, y, z]) := Lib.hid (by rw [← HZS.out]; simp [newRoom, HOK.out])
  have hmr : m = nodes.toNat := by rw [← HM.out]; simp [newMany, HOK.out]
  simp only [newOk, Bool.and_eq_true] at hko
  have hin := inB_of hko.2
  have HRB : Hid (roomB zs = true) := Lib.hid (by rw [HZR.out]; exact hko.1)
  have hm1 : 1 ≤ m := by omega
  have hmn : nodes = (m : Int) := by omega
  clear hko hmr hin HZS HM HOK
  subst hmn
  go_wp2_with fail
  rw [← HV3.out]
  clear HV3 yG0 yG1 hne3
  refine (sameCluster_eq A2 B2 A3 B3 c2 d2 c3 d3 m _ _ _ _ _ _ _ _ zs _ v3 HIG.out HUG.out HIS.out HUS.out (by omega) (by omega) (by omega) (by omega) (by omega) (by omega)).mono ?_; rintro e w4 ⟨rfl, hb⟩
  have hs4 := hb.size
  first | replace HB := Lib.hid (Below.trans HB.out (Below.mono hb (by omega))) | replace HB := Lib.hid (Below.trans HB.out (Only.below hb (by omega) (by omega)))
  first | replace HI := Lib.hid (Ints.only HI.out hb (by omega) (by omega)) | replace HI := Lib.hid (Ints.below HI.out hb (by omega))
  first | replace HXG := Lib.hid (Blk.only HXG.out hb (by omega)) | replace HXG := Lib.hid (Blk.below HXG.out hb (by omega))
  first | replace HIG := Lib.hid (Ints.only HIG.out hb (by omega) (by omega)) | replace HIG := Lib.hid (Ints.below HIG.out hb (by omega))
  first | replace HUG := Lib.hid (Units.only HUG.out hb (by omega) (by omega)) | replace HUG := Lib.hid (Units.below HUG.out hb (by omega))
  clear hb
  have xG0 := HXG.out.cell (i := 0) rfl
  have xG1 := HXG.out.cell (i := 1) rfl
  go_wp2_with fail
  refine (clusterValid_any A2 B2 c2 d2 m _ _ _ _ zs w4 HIG.out HUG.out HRB.out (by omega) (by omega) (by omega)).mono ?_; rintro e w5 ⟨rfl, hb⟩
  have hs5 := hb.size
  first | replace HB := Lib.hid (Below.trans HB.out (Below.mono hb (by omega))) | replace HB := Lib.hid (Below.trans HB.out (Only.below hb (by omega) (by omega)))
  first | replace HI := Lib.hid (Ints.only HI.out hb (by omega) (by omega)) | replace HI := Lib.hid (Ints.below HI.out hb (by omega))
  first | replace HXG := Lib.hid (Blk.only HXG.out hb (by omega)) | replace HXG := Lib.hid (Blk.below HXG.out hb (by omega))
  first | replace HIG := Lib.hid (Ints.only HIG.out hb (by omega) (by omega)) | replace HIG := Lib.hid (Ints.below HIG.out hb (by omega))
  first | replace HUG := Lib.hid (Units.only HUG.out hb (by omega) (by omega)) | replace HUG := Lib.hid (Units.below HUG.out hb (by omega))
  clear hb xG0 xG1
  have xG0 := HXG.out.cell (i := 0) rfl
  have xG1 := HXG.out.cell (i := 1) rfl
  go_wp2_with fail
  refine (clusterCounts_any A2 B2 c2 d2 m _ _ _ _ zs w5 HIG.out HUG.out HRB.out (by omega) (by omega) (by omega)).mono ?_; rintro e w6 ⟨A6, c6, rfl, hI6, hb⟩
  have hs6 := hb.size
  first | replace HB := Lib.hid (Below.trans HB.out (Below.mono hb (by omega))) | replace HB := Lib.hid (Below.trans HB.out (Only.below hb (by omega) (by omega)))
  first | replace HI := Lib.hid (Ints.only HI.out hb (by omega) (by omega)) | replace HI := Lib.hid (Ints.below HI.out hb (by omega))
  first | replace HXG := Lib.hid (Blk.only HXG.out hb (by omega)) | replace HXG := Lib.hid (Blk.below HXG.out hb (by omega))
  first | replace HIG := Lib.hid (Ints.only HIG.out hb (by omega) (by omega)) | replace HIG := Lib.hid (Ints.below HIG.out hb (by omega))
  first | replace HUG := Lib.hid (Units.only HUG.out hb (by omega) (by omega)) | replace HUG := Lib.hid (Units.below HUG.out hb (by omega))
  have HI6 := Lib.hid hI6
  clear hb xG0 xG1 hI6
  obtain ⟨w7, hw7⟩ : ∃ W, W = w6.alloc (.cells #[.int .i64 0, .int .i64 0, .int .i64 0] 3) := ⟨_, rfl⟩
  have HW7 := Lib.hid hw7
  have hb7 : Below w6.heap.size w6 w7 := by rw [hw7]; exact alloc_belowC w6 _
  have hs7 : w6.heap.size + 1 ≤ w7.heap.size := by rw [hw7]; simp
  have HI7 : Hid (Ints w7 0 w7.heap.size (some ⟨w6.heap.size, 0, none⟩) 3 [0, 0, 0]) := Lib.hid (by rw [hw7]; exact ints_lit3 w6 _ 0 0 0)
  first | replace HB := Lib.hid (Below.trans HB.out (Below.mono hb7 (by omega))) | replace HB := Lib.hid (Below.trans HB.out (Only.below hb7 (by omega) (by omega)))
  first | replace HI := Lib.hid (Ints.only HI.out hb7 (by omega) (by omega)) | replace HI := Lib.hid (Ints.below HI.out hb7 (by omega))
  first | replace HXG := Lib.hid (Blk.only HXG.out hb7 (by omega)) | replace HXG := Lib.hid (Blk.below HXG.out hb7 (by omega))
  first | replace HIG := Lib.hid (Ints.only HIG.out hb7 (by omega) (by omega)) | replace HIG := Lib.hid (Ints.below HIG.out hb7 (by omega))
  first | replace HUG := Lib.hid (Units.only HUG.out hb7 (by omega) (by omega)) | replace HUG := Lib.hid (Units.below HUG.out hb7 (by omega))
  first | replace HI6 := Lib.hid (Ints.only HI6.out hb7 (by omega) (by omega)) | replace HI6 := Lib.hid (Ints.below HI6.out hb7 (by omega))
  clear hw7 hb7
  go_wp2_with fail
  rw [← HW7.out]
  refine (sameInts_eq A6 (some ⟨w6.heap.size, 0, none⟩) c6 3 _ _ _ _ [0, 0, 0] w7 HI6.out HI7.out (by simp)).mono ?_; rintro e w8 ⟨rfl, hd⟩
  have hb := drawn_below hd; clear hd
  have hs8 := hb.size
  first | replace HB := Lib.hid (Below.trans HB.out (Below.mono hb (by omega))) | replace HB := Lib.hid (Below.trans HB.out (Only.below hb (by omega) (by omega)))
  first | replace HI := Lib.hid (Ints.only HI.out hb (by omega) (by omega)) | replace HI := Lib.hid (Ints.below HI.out hb (by omega))
  first | replace HXG := Lib.hid (Blk.only HXG.out hb (by omega)) | replace HXG := Lib.hid (Blk.below HXG.out hb (by omega))
  first | replace HIG := Lib.hid (Ints.only HIG.out hb (by omega) (by omega)) | replace HIG := Lib.hid (Ints.below HIG.out hb (by omega))
  first | replace HUG := Lib.hid (Units.only HUG.out hb (by omega) (by omega)) | replace HUG := Lib.hid (Units.below HUG.out hb (by omega))
  clear hb
  have xG0 := HXG.out.cell (i := 0) rfl
  have xG1 := HXG.out.cell (i := 1) rfl
  go_wp2_with fail
  have H9 : Hid (Calls Try.prog 10 #[.slice A2 zs.length c2, .slice (some ⟨b, 0, none⟩) 3 3] w8 fun e w' => e = .returned (.bool true) ∧ ∃ n, w' = w8.drewN n) := Lib.hid (by
    have h := HIG.out
    rw [HZR.out] at h ⊢
    exact sameInts_eq A2 (some ⟨b, 0, none⟩) c2 3 _ _ _ _ [x, y, z] w8 h HI.out (by simp))
  refine H9.out.mono ?_; rintro e w9 ⟨rfl, hd⟩
  have hb := drawn_below hd; clear hd
  first | replace HB := Lib.hid (Below.trans HB.out (Below.mono hb (by omega))) | replace HB := Lib.hid (Below.trans HB.out (Only.below hb (by omega) (by omega)))
  clear hb
  go_wp2_with fail
  go_ret
  exact ⟨by simp, HB.out⟩
end Go.Proofs.Ytcmampicgdobcaa
