/- The walk of one exact statement: by the contracts of what it calls it returns true and changes nothing that was there. No condition. -/
import Derived.Test.YtojbljaleconpaaCe
import Derived.Test.YtojbljaleconpaaCm
namespace Go.Proofs.Ytojbljaleconpaa
open Go.RowKit
theorem newRoom_len {room : List Int} {nodes : Int} : (newRoom room nodes).length ≤ 3 ∧ newMany room nodes ≤ 10 := by
  by_cases h : newOk room nodes = true
  · have h1 := h
    simp only [newOk, Bool.and_eq_true] at h1
    have h2 := inB_of h1.2
    rw [newRoom, newMany, if_pos h, if_pos h, roomB_len h1.1]
    omega
  · rw [newRoom, newMany, if_neg h, if_neg h]; simp
set_option maxHeartbeats 4000000 in
theorem FnExactClusterNew_walk (A : Option Addr) (c : Nat) (ya : List Int) (nodes : Int) (w : World) (hA : IntsR w w.heap.size A ya) (_hat : (Lit.int .i64 nodes).wf = true) (hma : ya.length ≤ maxLen) :
    Calls Try.prog 12 #[.slice A ya.length c, .int .i64 nodes] w fun e w' => e = .returned (.bool true) ∧ Below w.heap.size w w' := by
  have HA := Lib.hid hA; clear hA
  have hma' : ya.length ≤ 9223372036854775807 := by simpa [maxLen] using hma
  clear hma
  by_cases hla : 1048576 < ya.length
  · have hla' : (1048576 : Int) < ya.length := by omega
    go_enter Try.func12, Try.ntmps12
    go_wp2_with fail
    go_ret
    exact ⟨by simp, Below.refl _ _⟩
  have hla' : ¬ ((1048576 : Int) < ya.length) := by omega
  have HB := Lib.hid (Below.refl w.heap.size w)
  obtain ⟨zs, hzs⟩ : ∃ z, newRoom ya nodes = z := ⟨_, rfl⟩
  obtain ⟨n, hn⟩ : ∃ z, newMany ya nodes = z := ⟨_, rfl⟩
  obtain ⟨ok, hok⟩ : ∃ z, newOk ya nodes = z := ⟨_, rfl⟩
  have hzl : zs.length ≤ 3 := by rw [← hzs]; exact newRoom_len.1
  have hnl : n ≤ 10 := by rw [← hn]; exact newRoom_len.2
  have HZS := Lib.hid hzs
  have HN := Lib.hid hn
  have HOK := Lib.hid hok
  clear hzs hn hok
  go_enter Try.func12, Try.ntmps12
  go_wp2_with fail
  refine (toIntS_any A c _ ya w HA.out (by omega) (by omega)).mono ?_; rintro e w1 ⟨A1, c1, rfl, hI, hb⟩
  have hs1 := hb.size
  first | replace HA := Lib.hid (IntsR.below HA.out hb (by omega)) | replace HA := Lib.hid (IntsR.below HA.out (Only.below hb (by omega) (by omega)) (by omega))
  first | replace HB := Lib.hid (Below.trans HB.out (Below.mono hb (by omega))) | replace HB := Lib.hid (Below.trans HB.out (Only.below hb (by omega) (by omega)))
  clear hb
  have HX1 := Lib.hid hI; clear hI
  go_wp2_with fail
  have h5 := clusterNewS_any A1 c1 _ _ ya nodes w1 HX1.out (by omega) (by omega)
  rw [HZS.out, HN.out, HOK.out] at h5
  have H5 := Lib.hid h5; clear h5
  refine H5.out.mono ?_; rintro e w2 ⟨A2, c2, B2, d2, l2, h2, m2, k2, rfl, hI, hU, hd2, ⟨hp2, hq2, hr2, ht2⟩, hb⟩
  clear H5
  have hs2 := hb.size
  first | replace HA := Lib.hid (IntsR.below HA.out hb (by omega)) | replace HA := Lib.hid (IntsR.below HA.out (Only.below hb (by omega) (by omega)) (by omega))
  first | replace HB := Lib.hid (Below.trans HB.out (Below.mono hb (by omega))) | replace HB := Lib.hid (Below.trans HB.out (Only.below hb (by omega) (by omega)))
  clear hb
  obtain ⟨v2, hv⟩ : ∃ W, W = w2.alloc (.cells #[.slice A2 zs.length c2, .slice B2 n d2] 58) := ⟨_, rfl⟩
  have HV2 := Lib.hid hv
  have hb : Below w2.heap.size w2 v2 := by rw [hv]; exact alloc_belowC w2 _
  have hsv2 : w2.heap.size + 1 ≤ v2.heap.size := by rw [hv]; simp
  have HXS : Hid (Blk v2 w2.heap.size 58 [.slice A2 zs.length c2, .slice B2 n d2]) := Lib.hid (by rw [hv]; exact Blk.new w2 _ [.slice A2 zs.length c2, .slice B2 n d2])
  have HIS := Lib.hid (hI.below hb hq2)
  have HUS := Lib.hid (hU.below hb ht2)
  first | replace HA := Lib.hid (IntsR.below HA.out hb (by omega)) | replace HA := Lib.hid (IntsR.below HA.out (Only.below hb (by omega) (by omega)) (by omega))
  first | replace HB := Lib.hid (Below.trans HB.out (Below.mono hb (by omega))) | replace HB := Lib.hid (Below.trans HB.out (Only.below hb (by omega) (by omega)))
  clear hb hv hI hU
  clear HX1
  go_wp2_with fail
  rw [← HV2.out]
  clear HV2
  refine (toIntS_any A c _ ya v2 HA.out (by omega) (by omega)).mono ?_; rintro e w3 ⟨A3, c3, rfl, hI, hb⟩
  have hs3 := hb.size
  first | replace HA := Lib.hid (IntsR.below HA.out hb (by omega)) | replace HA := Lib.hid (IntsR.below HA.out (Only.below hb (by omega) (by omega)) (by omega))
  first | replace HB := Lib.hid (Below.trans HB.out (Below.mono hb (by omega))) | replace HB := Lib.hid (Below.trans HB.out (Only.below hb (by omega) (by omega)))
  first | replace HXS := Lib.hid (Blk.only HXS.out hb (by omega)) | replace HXS := Lib.hid (Blk.below HXS.out hb (by omega))
  first | replace HIS := Lib.hid (Ints.only HIS.out hb (by omega) (by omega)) | replace HIS := Lib.hid (Ints.below HIS.out hb (by omega))
  first | replace HUS := Lib.hid (Units.only HUS.out hb (by omega) (by omega)) | replace HUS := Lib.hid (Units.below HUS.out hb (by omega))
  clear hb
  have HX0 := Lib.hid hI; clear hI
  go_wp2_with fail
  have h5 := clusterNew_any A3 c3 _ _ ya nodes w3 HX0.out (by omega) (by omega)
  rw [HZS.out, HN.out, HOK.out] at h5
  have H5 := Lib.hid h5; clear h5
  refine H5.out.mono ?_; rintro e w4 ⟨A4, c4, B4, d4, l4, h4, m4, k4, rfl, hI, hU, hd4, ⟨hp4, hq4, hr4, ht4⟩, hb⟩
  clear H5
  have hs4 := hb.size
  first | replace HA := Lib.hid (IntsR.below HA.out hb (by omega)) | replace HA := Lib.hid (IntsR.below HA.out (Only.below hb (by omega) (by omega)) (by omega))
  first | replace HB := Lib.hid (Below.trans HB.out (Below.mono hb (by omega))) | replace HB := Lib.hid (Below.trans HB.out (Only.below hb (by omega) (by omega)))
  first | replace HXS := Lib.hid (Blk.only HXS.out hb (by omega)) | replace HXS := Lib.hid (Blk.below HXS.out hb (by omega))
  first | replace HIS := Lib.hid (Ints.only HIS.out hb (by omega) (by omega)) | replace HIS := Lib.hid (Ints.below HIS.out hb (by omega))
  first | replace HUS := Lib.hid (Units.only HUS.out hb (by omega) (by omega)) | replace HUS := Lib.hid (Units.below HUS.out hb (by omega))
  first | replace HX0 := Lib.hid (Ints.only HX0.out hb (by omega) (by omega)) | replace HX0 := Lib.hid (Ints.below HX0.out hb (by omega))
  clear hb
  have yS0 := HXS.out.cell (i := 0) rfl
  have yS1 := HXS.out.cell (i := 1) rfl
  have hlt4 : w2.heap.size < w4.heap.size := by omega
  have hne4 : w2.heap.size ≠ w4.heap.size := by omega
  obtain ⟨v4, hv⟩ : ∃ W, W = w4.alloc (.cells #[.slice A4 zs.length c4, .slice B4 n d4] 58) := ⟨_, rfl⟩
  have HV4 := Lib.hid hv
  have hb : Below w4.heap.size w4 v4 := by rw [hv]; exact alloc_belowC w4 _
  have hsv4 : w4.heap.size + 1 ≤ v4.heap.size := by rw [hv]; simp
  have HXG : Hid (Blk v4 w4.heap.size 58 [.slice A4 zs.length c4, .slice B4 n d4]) := Lib.hid (by rw [hv]; exact Blk.new w4 _ [.slice A4 zs.length c4, .slice B4 n d4])
  have HIG := Lib.hid (hI.below hb hq4)
  have HUG := Lib.hid (hU.below hb ht4)
  first | replace HA := Lib.hid (IntsR.below HA.out hb (by omega)) | replace HA := Lib.hid (IntsR.below HA.out (Only.below hb (by omega) (by omega)) (by omega))
  first | replace HB := Lib.hid (Below.trans HB.out (Below.mono hb (by omega))) | replace HB := Lib.hid (Below.trans HB.out (Only.below hb (by omega) (by omega)))
  first | replace HXS := Lib.hid (Blk.only HXS.out hb (by omega)) | replace HXS := Lib.hid (Blk.below HXS.out hb (by omega))
  first | replace HIS := Lib.hid (Ints.only HIS.out hb (by omega) (by omega)) | replace HIS := Lib.hid (Ints.below HIS.out hb (by omega))
  first | replace HUS := Lib.hid (Units.only HUS.out hb (by omega) (by omega)) | replace HUS := Lib.hid (Units.below HUS.out hb (by omega))
  first | replace HX0 := Lib.hid (Ints.only HX0.out hb (by omega) (by omega)) | replace HX0 := Lib.hid (Ints.below HX0.out hb (by omega))
  clear hb hv hI hU
  have xS0 := HXS.out.cell (i := 0) rfl
  have xS1 := HXS.out.cell (i := 1) rfl
  have xG0 := HXG.out.cell (i := 0) rfl
  have xG1 := HXG.out.cell (i := 1) rfl
  go_wp2_with fail
  rw [← HV4.out]
  clear HV4 yS0 yS1 hne4
  refine (eqCluster_eq A4 B4 A2 B2 c4 d4 c2 d2 n _ _ _ _ _ _ _ _ zs _ v4 HIG.out HUG.out HIS.out HUS.out (by omega) (by omega) (by omega) (by omega) (by omega) (by omega)).mono ?_; rintro e w5 ⟨rfl, hb⟩
  have hs5 := hb.size
  first | replace HA := Lib.hid (IntsR.below HA.out hb (by omega)) | replace HA := Lib.hid (IntsR.below HA.out (Only.below hb (by omega) (by omega)) (by omega))
  first | replace HB := Lib.hid (Below.trans HB.out (Below.mono hb (by omega))) | replace HB := Lib.hid (Below.trans HB.out (Only.below hb (by omega) (by omega)))
  first | replace HXS := Lib.hid (Blk.only HXS.out hb (by omega)) | replace HXS := Lib.hid (Blk.below HXS.out hb (by omega))
  first | replace HIS := Lib.hid (Ints.only HIS.out hb (by omega) (by omega)) | replace HIS := Lib.hid (Ints.below HIS.out hb (by omega))
  first | replace HUS := Lib.hid (Units.only HUS.out hb (by omega) (by omega)) | replace HUS := Lib.hid (Units.below HUS.out hb (by omega))
  first | replace HX0 := Lib.hid (Ints.only HX0.out hb (by omega) (by omega)) | replace HX0 := Lib.hid (Ints.below HX0.out hb (by omega))
  first | replace HXG := Lib.hid (Blk.only HXG.out hb (by omega)) | replace HXG := Lib.hid (Blk.below HXG.out hb (by omega))
  first | replace HIG := Lib.hid (Ints.only HIG.out hb (by omega) (by omega)) | replace HIG := Lib.hid (Ints.below HIG.out hb (by omega))
  first | replace HUG := Lib.hid (Units.only HUG.out hb (by omega) (by omega)) | replace HUG := Lib.hid (Units.below HUG.out hb (by omega))
  clear hb
  clear xS0 xS1 xG0 xG1
  go_wp2_with fail
  refine (toIntS_any A c _ ya w5 HA.out (by omega) (by omega)).mono ?_; rintro e w6 ⟨A6, c6, rfl, hI, hb⟩
  have hs6 := hb.size
  first | replace HA := Lib.hid (IntsR.below HA.out hb (by omega)) | replace HA := Lib.hid (IntsR.below HA.out (Only.below hb (by omega) (by omega)) (by omega))
  first | replace HB := Lib.hid (Below.trans HB.out (Below.mono hb (by omega))) | replace HB := Lib.hid (Below.trans HB.out (Only.below hb (by omega) (by omega)))
  first | replace HXS := Lib.hid (Blk.only HXS.out hb (by omega)) | replace HXS := Lib.hid (Blk.below HXS.out hb (by omega))
  first | replace HIS := Lib.hid (Ints.only HIS.out hb (by omega) (by omega)) | replace HIS := Lib.hid (Ints.below HIS.out hb (by omega))
  first | replace HUS := Lib.hid (Units.only HUS.out hb (by omega) (by omega)) | replace HUS := Lib.hid (Units.below HUS.out hb (by omega))
  first | replace HX0 := Lib.hid (Ints.only HX0.out hb (by omega) (by omega)) | replace HX0 := Lib.hid (Ints.below HX0.out hb (by omega))
  first | replace HXG := Lib.hid (Blk.only HXG.out hb (by omega)) | replace HXG := Lib.hid (Blk.below HXG.out hb (by omega))
  first | replace HIG := Lib.hid (Ints.only HIG.out hb (by omega) (by omega)) | replace HIG := Lib.hid (Ints.below HIG.out hb (by omega))
  first | replace HUG := Lib.hid (Units.only HUG.out hb (by omega) (by omega)) | replace HUG := Lib.hid (Units.below HUG.out hb (by omega))
  clear hb
  have HX3 := Lib.hid hI; clear hI
  go_wp2_with fail
  refine (eqIntS_eq A3 A6 c3 c6 _ _ _ _ ya w6 HX0.out HX3.out (by omega)).mono ?_; rintro e w7 ⟨rfl, hd⟩
  have hb := drawn_below hd; clear hd
  have hs7 := hb.size
  first | replace HA := Lib.hid (IntsR.below HA.out hb (by omega)) | replace HA := Lib.hid (IntsR.below HA.out (Only.below hb (by omega) (by omega)) (by omega))
  first | replace HB := Lib.hid (Below.trans HB.out (Below.mono hb (by omega))) | replace HB := Lib.hid (Below.trans HB.out (Only.below hb (by omega) (by omega)))
  first | replace HXS := Lib.hid (Blk.only HXS.out hb (by omega)) | replace HXS := Lib.hid (Blk.below HXS.out hb (by omega))
  first | replace HIS := Lib.hid (Ints.only HIS.out hb (by omega) (by omega)) | replace HIS := Lib.hid (Ints.below HIS.out hb (by omega))
  first | replace HUS := Lib.hid (Units.only HUS.out hb (by omega) (by omega)) | replace HUS := Lib.hid (Units.below HUS.out hb (by omega))
  first | replace HX0 := Lib.hid (Ints.only HX0.out hb (by omega) (by omega)) | replace HX0 := Lib.hid (Ints.below HX0.out hb (by omega))
  first | replace HXG := Lib.hid (Blk.only HXG.out hb (by omega)) | replace HXG := Lib.hid (Blk.below HXG.out hb (by omega))
  first | replace HIG := Lib.hid (Ints.only HIG.out hb (by omega) (by omega)) | replace HIG := Lib.hid (Ints.below HIG.out hb (by omega))
  first | replace HUG := Lib.hid (Units.only HUG.out hb (by omega) (by omega)) | replace HUG := Lib.hid (Units.below HUG.out hb (by omega))
  clear hb HX3
  go_wp2_with fail
  refine (markIntS_any A3 c3 _ _ ya 1 w7 HX0.out (by omega) (by omega)).mono ?_; rintro e w8 ⟨rfl, _, hO, hs⟩
  obtain ⟨hs8, hs8'⟩ := le_le hs; clear hs HX0
  first | replace HA := Lib.hid (IntsR.below HA.out hO (by omega)) | replace HA := Lib.hid (IntsR.below HA.out (Only.below hO (by omega) (by omega)) (by omega))
  first | replace HB := Lib.hid (Below.trans HB.out (Below.mono hO (by omega))) | replace HB := Lib.hid (Below.trans HB.out (Only.below hO (by omega) (by omega)))
  first | replace HXS := Lib.hid (Blk.only HXS.out hO (by omega)) | replace HXS := Lib.hid (Blk.below HXS.out hO (by omega))
  first | replace HIS := Lib.hid (Ints.only HIS.out hO (by omega) (by omega)) | replace HIS := Lib.hid (Ints.below HIS.out hO (by omega))
  first | replace HUS := Lib.hid (Units.only HUS.out hO (by omega) (by omega)) | replace HUS := Lib.hid (Units.below HUS.out hO (by omega))
  first | replace HXG := Lib.hid (Blk.only HXG.out hO (by omega)) | replace HXG := Lib.hid (Blk.below HXG.out hO (by omega))
  first | replace HIG := Lib.hid (Ints.only HIG.out hO (by omega) (by omega)) | replace HIG := Lib.hid (Ints.below HIG.out hO (by omega))
  first | replace HUG := Lib.hid (Units.only HUG.out hO (by omega) (by omega)) | replace HUG := Lib.hid (Units.below HUG.out hO (by omega))
  clear hO
  obtain ⟨kk, hkk⟩ : ∃ k : Int, 1 + (ya.length : Int) = k := ⟨_, rfl⟩
  have hkb : 0 ≤ kk ∧ kk ≤ 1048577 := by omega
  have hk0 : ¬ kk < 0 := by omega
  rw [hkk]
  clear hkk hkb
  have xS0 := HXS.out.cell (i := 0) rfl
  have xS1 := HXS.out.cell (i := 1) rfl
  have xG0 := HXG.out.cell (i := 0) rfl
  have xG1 := HXG.out.cell (i := 1) rfl
  go_wp2_with fail
  refine (eqCluster_eq A4 B4 A2 B2 c4 d4 c2 d2 n _ _ _ _ _ _ _ _ zs _ w8 HIG.out HUG.out HIS.out HUS.out (by omega) (by omega) (by omega) (by omega) (by omega) (by omega)).mono ?_; rintro e w9 ⟨rfl, hb⟩
  have hs9 := hb.size
  first | replace HA := Lib.hid (IntsR.below HA.out hb (by omega)) | replace HA := Lib.hid (IntsR.below HA.out (Only.below hb (by omega) (by omega)) (by omega))
  first | replace HB := Lib.hid (Below.trans HB.out (Below.mono hb (by omega))) | replace HB := Lib.hid (Below.trans HB.out (Only.below hb (by omega) (by omega)))
  first | replace HXS := Lib.hid (Blk.only HXS.out hb (by omega)) | replace HXS := Lib.hid (Blk.below HXS.out hb (by omega))
  first | replace HIS := Lib.hid (Ints.only HIS.out hb (by omega) (by omega)) | replace HIS := Lib.hid (Ints.below HIS.out hb (by omega))
  first | replace HUS := Lib.hid (Units.only HUS.out hb (by omega) (by omega)) | replace HUS := Lib.hid (Units.below HUS.out hb (by omega))
  first | replace HXG := Lib.hid (Blk.only HXG.out hb (by omega)) | replace HXG := Lib.hid (Blk.below HXG.out hb (by omega))
  first | replace HIG := Lib.hid (Ints.only HIG.out hb (by omega) (by omega)) | replace HIG := Lib.hid (Ints.below HIG.out hb (by omega))
  first | replace HUG := Lib.hid (Units.only HUG.out hb (by omega) (by omega)) | replace HUG := Lib.hid (Units.below HUG.out hb (by omega))
  clear hb
  clear xS0 xS1 xG0 xG1
  have xG0 := HXG.out.cell (i := 0) rfl
  have xG1 := HXG.out.cell (i := 1) rfl
  obtain ⟨mm, hmm⟩ : ∃ k : Int, 1 + (zs.length : Int) + (n : Int) = k := ⟨_, rfl⟩
  have hmb : 0 ≤ mm ∧ mm ≤ 100 := by omega
  have hm0 : ¬ mm < 0 := by omega
  have HMM := Lib.hid hmm
  clear hmm
  go_wp2_with fail
  refine (markCluster_any A4 B4 c4 d4 n _ _ _ _ w3.heap.size w4.heap.size zs _ 1 w9 HIG.out HUG.out hd4 (by omega) (by omega) (by omega) ⟨by omega, by omega⟩ ⟨by omega, by omega⟩ (by omega)).mono ?_; rintro e w10 ⟨rfl, hI, hU, hO⟩
  rw [HMM.out]
  have hs10 := hO.size
  clear xG0 xG1
  replace HIG := Lib.hid hI
  replace HUG := Lib.hid hU
  first | replace HA := Lib.hid (IntsR.below HA.out hO (by omega)) | replace HA := Lib.hid (IntsR.below HA.out (Only.below hO (by omega) (by omega)) (by omega))
  first | replace HB := Lib.hid (Below.trans HB.out (Below.mono hO (by omega))) | replace HB := Lib.hid (Below.trans HB.out (Only.below hO (by omega) (by omega)))
  first | replace HXS := Lib.hid (Blk.only HXS.out hO (by omega)) | replace HXS := Lib.hid (Blk.below HXS.out hO (by omega))
  first | replace HIS := Lib.hid (Ints.only HIS.out hO (by omega) (by omega)) | replace HIS := Lib.hid (Ints.below HIS.out hO (by omega))
  first | replace HUS := Lib.hid (Units.only HUS.out hO (by omega) (by omega)) | replace HUS := Lib.hid (Units.below HUS.out hO (by omega))
  first | replace HXG := Lib.hid (Blk.only HXG.out hO (by omega)) | replace HXG := Lib.hid (Blk.below HXG.out hO (by omega))
  clear hI hU hO
  have xG0 := HXG.out.cell (i := 0) rfl
  have xG1 := HXG.out.cell (i := 1) rfl
  go_wp2_with fail
  refine (heldCluster_any A4 B4 c4 d4 n _ _ _ _ zs.length 1 w10 HIG.out HUG.out (by omega) (by omega) (by omega) (by omega) (by omega)).mono ?_; rintro e w11 ⟨rfl, hb⟩
  rw [HMM.out]
  have hs11 := hb.size
  first | replace HA := Lib.hid (IntsR.below HA.out hb (by omega)) | replace HA := Lib.hid (IntsR.below HA.out (Only.below hb (by omega) (by omega)) (by omega))
  first | replace HB := Lib.hid (Below.trans HB.out (Below.mono hb (by omega))) | replace HB := Lib.hid (Below.trans HB.out (Only.below hb (by omega) (by omega)))
  first | replace HXS := Lib.hid (Blk.only HXS.out hb (by omega)) | replace HXS := Lib.hid (Blk.below HXS.out hb (by omega))
  first | replace HIS := Lib.hid (Ints.only HIS.out hb (by omega) (by omega)) | replace HIS := Lib.hid (Ints.below HIS.out hb (by omega))
  first | replace HUS := Lib.hid (Units.only HUS.out hb (by omega) (by omega)) | replace HUS := Lib.hid (Units.below HUS.out hb (by omega))
  first | replace HXG := Lib.hid (Blk.only HXG.out hb (by omega)) | replace HXG := Lib.hid (Blk.below HXG.out hb (by omega))
  first | replace HIG := Lib.hid (Ints.only HIG.out hb (by omega) (by omega)) | replace HIG := Lib.hid (Ints.below HIG.out hb (by omega))
  first | replace HUG := Lib.hid (Units.only HUG.out hb (by omega) (by omega)) | replace HUG := Lib.hid (Units.below HUG.out hb (by omega))
  clear hb xG0 xG1
  go_wp2_with fail
  refine (toIntS_any A c _ ya w11 HA.out (by omega) (by omega)).mono ?_; rintro e w12 ⟨A12, c12, rfl, hI, hb⟩
  have hs12 := hb.size
  first | replace HA := Lib.hid (IntsR.below HA.out hb (by omega)) | replace HA := Lib.hid (IntsR.below HA.out (Only.below hb (by omega) (by omega)) (by omega))
  first | replace HB := Lib.hid (Below.trans HB.out (Below.mono hb (by omega))) | replace HB := Lib.hid (Below.trans HB.out (Only.below hb (by omega) (by omega)))
  first | replace HXS := Lib.hid (Blk.only HXS.out hb (by omega)) | replace HXS := Lib.hid (Blk.below HXS.out hb (by omega))
  first | replace HIS := Lib.hid (Ints.only HIS.out hb (by omega) (by omega)) | replace HIS := Lib.hid (Ints.below HIS.out hb (by omega))
  first | replace HUS := Lib.hid (Units.only HUS.out hb (by omega) (by omega)) | replace HUS := Lib.hid (Units.below HUS.out hb (by omega))
  first | replace HXG := Lib.hid (Blk.only HXG.out hb (by omega)) | replace HXG := Lib.hid (Blk.below HXG.out hb (by omega))
  first | replace HIG := Lib.hid (Ints.only HIG.out hb (by omega) (by omega)) | replace HIG := Lib.hid (Ints.below HIG.out hb (by omega))
  first | replace HUG := Lib.hid (Units.only HUG.out hb (by omega) (by omega)) | replace HUG := Lib.hid (Units.below HUG.out hb (by omega))
  clear hb
  have HX4 := Lib.hid hI; clear hI
  go_wp2_with fail
  have h5 := clusterNew_any A12 c12 _ _ ya nodes w12 HX4.out (by omega) (by omega)
  rw [HZS.out, HN.out, HOK.out] at h5
  have H5 := Lib.hid h5; clear h5
  refine H5.out.mono ?_; rintro e w13 ⟨A13, c13, B13, d13, l13, h13, m13, k13, rfl, hI, hU, hd13, ⟨hp13, hq13, hr13, ht13⟩, hb⟩
  clear H5
  have hs13 := hb.size
  first | replace HA := Lib.hid (IntsR.below HA.out hb (by omega)) | replace HA := Lib.hid (IntsR.below HA.out (Only.below hb (by omega) (by omega)) (by omega))
  first | replace HB := Lib.hid (Below.trans HB.out (Below.mono hb (by omega))) | replace HB := Lib.hid (Below.trans HB.out (Only.below hb (by omega) (by omega)))
  first | replace HXS := Lib.hid (Blk.only HXS.out hb (by omega)) | replace HXS := Lib.hid (Blk.below HXS.out hb (by omega))
  first | replace HIS := Lib.hid (Ints.only HIS.out hb (by omega) (by omega)) | replace HIS := Lib.hid (Ints.below HIS.out hb (by omega))
  first | replace HUS := Lib.hid (Units.only HUS.out hb (by omega) (by omega)) | replace HUS := Lib.hid (Units.below HUS.out hb (by omega))
  first | replace HXG := Lib.hid (Blk.only HXG.out hb (by omega)) | replace HXG := Lib.hid (Blk.below HXG.out hb (by omega))
  first | replace HIG := Lib.hid (Ints.only HIG.out hb (by omega) (by omega)) | replace HIG := Lib.hid (Ints.below HIG.out hb (by omega))
  first | replace HUG := Lib.hid (Units.only HUG.out hb (by omega) (by omega)) | replace HUG := Lib.hid (Units.below HUG.out hb (by omega))
  clear hb
  have yS0 := HXS.out.cell (i := 0) rfl
  have yS1 := HXS.out.cell (i := 1) rfl
  have hlt13 : w2.heap.size < w13.heap.size := by omega
  have hne13 : w2.heap.size ≠ w13.heap.size := by omega
  obtain ⟨v13, hv⟩ : ∃ W, W = w13.alloc (.cells #[.slice A13 zs.length c13, .slice B13 n d13] 58) := ⟨_, rfl⟩
  have HV13 := Lib.hid hv
  have hb : Below w13.heap.size w13 v13 := by rw [hv]; exact alloc_belowC w13 _
  have hsv13 : w13.heap.size + 1 ≤ v13.heap.size := by rw [hv]; simp
  have HXH : Hid (Blk v13 w13.heap.size 58 [.slice A13 zs.length c13, .slice B13 n d13]) := Lib.hid (by rw [hv]; exact Blk.new w13 _ [.slice A13 zs.length c13, .slice B13 n d13])
  have HIH := Lib.hid (hI.below hb hq13)
  have HUH := Lib.hid (hU.below hb ht13)
  first | replace HA := Lib.hid (IntsR.below HA.out hb (by omega)) | replace HA := Lib.hid (IntsR.below HA.out (Only.below hb (by omega) (by omega)) (by omega))
  first | replace HB := Lib.hid (Below.trans HB.out (Below.mono hb (by omega))) | replace HB := Lib.hid (Below.trans HB.out (Only.below hb (by omega) (by omega)))
  first | replace HXS := Lib.hid (Blk.only HXS.out hb (by omega)) | replace HXS := Lib.hid (Blk.below HXS.out hb (by omega))
  first | replace HIS := Lib.hid (Ints.only HIS.out hb (by omega) (by omega)) | replace HIS := Lib.hid (Ints.below HIS.out hb (by omega))
  first | replace HUS := Lib.hid (Units.only HUS.out hb (by omega) (by omega)) | replace HUS := Lib.hid (Units.below HUS.out hb (by omega))
  first | replace HXG := Lib.hid (Blk.only HXG.out hb (by omega)) | replace HXG := Lib.hid (Blk.below HXG.out hb (by omega))
  first | replace HIG := Lib.hid (Ints.only HIG.out hb (by omega) (by omega)) | replace HIG := Lib.hid (Ints.below HIG.out hb (by omega))
  first | replace HUG := Lib.hid (Units.only HUG.out hb (by omega) (by omega)) | replace HUG := Lib.hid (Units.below HUG.out hb (by omega))
  clear hb hv hI hU
  have xS0 := HXS.out.cell (i := 0) rfl
  have xS1 := HXS.out.cell (i := 1) rfl
  have xH0 := HXH.out.cell (i := 0) rfl
  have xH1 := HXH.out.cell (i := 1) rfl
  have xG0 := HXG.out.cell (i := 0) rfl
  have xG1 := HXG.out.cell (i := 1) rfl
  go_wp2_with fail
  rw [← HV13.out]
  clear HV13 yS0 yS1 hne13
  refine (eqCluster_eq A13 B13 A2 B2 c13 d13 c2 d2 n _ _ _ _ _ _ _ _ zs _ v13 HIH.out HUH.out HIS.out HUS.out (by omega) (by omega) (by omega) (by omega) (by omega) (by omega)).mono ?_; rintro e w14 ⟨rfl, hb⟩
  have hs14 := hb.size
  first | replace HA := Lib.hid (IntsR.below HA.out hb (by omega)) | replace HA := Lib.hid (IntsR.below HA.out (Only.below hb (by omega) (by omega)) (by omega))
  first | replace HB := Lib.hid (Below.trans HB.out (Below.mono hb (by omega))) | replace HB := Lib.hid (Below.trans HB.out (Only.below hb (by omega) (by omega)))
  first | replace HXS := Lib.hid (Blk.only HXS.out hb (by omega)) | replace HXS := Lib.hid (Blk.below HXS.out hb (by omega))
  first | replace HIS := Lib.hid (Ints.only HIS.out hb (by omega) (by omega)) | replace HIS := Lib.hid (Ints.below HIS.out hb (by omega))
  first | replace HUS := Lib.hid (Units.only HUS.out hb (by omega) (by omega)) | replace HUS := Lib.hid (Units.below HUS.out hb (by omega))
  first | replace HXG := Lib.hid (Blk.only HXG.out hb (by omega)) | replace HXG := Lib.hid (Blk.below HXG.out hb (by omega))
  first | replace HIG := Lib.hid (Ints.only HIG.out hb (by omega) (by omega)) | replace HIG := Lib.hid (Ints.below HIG.out hb (by omega))
  first | replace HUG := Lib.hid (Units.only HUG.out hb (by omega) (by omega)) | replace HUG := Lib.hid (Units.below HUG.out hb (by omega))
  first | replace HXH := Lib.hid (Blk.only HXH.out hb (by omega)) | replace HXH := Lib.hid (Blk.below HXH.out hb (by omega))
  first | replace HIH := Lib.hid (Ints.only HIH.out hb (by omega) (by omega)) | replace HIH := Lib.hid (Ints.below HIH.out hb (by omega))
  first | replace HUH := Lib.hid (Units.only HUH.out hb (by omega) (by omega)) | replace HUH := Lib.hid (Units.below HUH.out hb (by omega))
  clear hb
  clear xS0 xS1 xH0 xH1 xG0 xG1
  have xG0 := HXG.out.cell (i := 0) rfl
  have xG1 := HXG.out.cell (i := 1) rfl
  go_wp2_with fail
  refine (heldCluster_any A4 B4 c4 d4 n _ _ _ _ zs.length 1 w14 HIG.out HUG.out (by omega) (by omega) (by omega) (by omega) (by omega)).mono ?_; rintro e w15 ⟨rfl, hb⟩
  rw [HMM.out]
  first | replace HB := Lib.hid (Below.trans HB.out (Below.mono hb (by omega))) | replace HB := Lib.hid (Below.trans HB.out (Only.below hb (by omega) (by omega)))
  clear hb xG0 xG1
  go_wp2_with fail
  go_ret
  exact ⟨by simp, HB.out⟩
end Go.Proofs.Ytojbljaleconpaa
