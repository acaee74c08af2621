/- The walk of one statement: by the contracts of what it calls it returns true and changes nothing that was there. No condition. -/
import Derived.Test.YtlkhfmpkbjemhaaSm
namespace Go.Proofs.Ytlkhfmpkbjemhaa
open Go.RowKit
set_option maxHeartbeats 1000000 in
theorem FnBoundBest_walk (A : Option Addr) (n c : Nat) (w : World) (hA : BytesR w w.heap.size A n) (hc : n ≤ c) (hm : c ≤ maxLen) :
    Calls Try.prog 13 #[.slice A n c] w fun e w' => e = .returned (.bool true) ∧ Below w.heap.size w w' := by
  have HA := Lib.hid hA; clear hA
  by_cases hn : 1048576 < n
  · go_enter Try.func13, Try.ntmps13
    go_wp2
    go_ret
    exact ⟨by simp, Below.refl _ _⟩
  have hnd : ¬ ((1048576 : Int) < (n : Int)) := by omega
  go_enter Try.func13, Try.ntmps13
  go_wp2_with fail
  refine (DrawBoundBest_any A n c w HA.out hc hm).mono ?_; rintro e w1 ⟨A1, c1, room, B1, d1, ts, rfl, hI, hg, hT, hgt, hl, hb⟩
  have HI := Lib.hid hI; clear hI
  have HG := Lib.hid hg; clear hg
  have HT := Lib.hid hT; clear hT
  have HGT := Lib.hid hgt; clear hgt
  have HB := Lib.hid hb; clear hb
  have hs1 := HB.out.size
  have hlr : room.length ≤ 3 := Nat.le_of_eq HG.out.1
  have hnl : ∀ t, t ∈ ts → t.need.length ≤ 1048576 := fun t ht => by have := (HGT.out t ht).1.1; omega
  have HNL := Lib.hid hnl; clear hnl
  have HWF := Lib.hid (fun t ht => (HGT.out t ht).wf : ∀ t, t ∈ ts → (Lit.int .i64 t.id).wf = true)
  obtain ⟨v, hv⟩ : ∃ v, bestI room (ts.map pv) = v := ⟨_, rfl⟩
  have HVv := Lib.hid hv; clear hv
  go_wp2_with fail
  refine (boundBest_any A1 c1 _ _ room B1 d1 _ _ ts w1 HI.out (by omega) HT.out (by omega) HNL.out HWF.out (by omega) (by omega)).mono ?_; rintro e w2 ⟨rfl, hb⟩
  rw [HVv.out]
  have hsw2 := hb.size
  first | replace HI := Lib.hid (Ints.only HI.out hb (by omega) (by omega)) | replace HI := Lib.hid (Ints.below HI.out hb (by omega))
  first | replace HT := Lib.hid (Tasks.only HT.out hb (by omega) (by omega)) | replace HT := Lib.hid (Tasks.below HT.out hb (by omega))
  first | replace HB := Lib.hid (Below.trans HB.out (Below.mono hb (by omega))) | replace HB := Lib.hid (Below.trans HB.out (Only.below hb (by omega) (by omega)))
  clear hb
  go_wp2_with fail
  refine (boundBestS_any A1 c1 _ _ room B1 d1 _ _ ts w2 HI.out (by omega) HT.out (by omega) HNL.out (by omega) (by omega)).mono ?_; rintro e w3 ⟨rfl, hb⟩
  rw [HVv.out]
  have hsw3 := hb.size
  first | replace HI := Lib.hid (Ints.only HI.out hb (by omega) (by omega)) | replace HI := Lib.hid (Ints.below HI.out hb (by omega))
  first | replace HT := Lib.hid (Tasks.only HT.out hb (by omega) (by omega)) | replace HT := Lib.hid (Tasks.below HT.out hb (by omega))
  first | replace HB := Lib.hid (Below.trans HB.out (Below.mono hb (by omega))) | replace HB := Lib.hid (Below.trans HB.out (Only.below hb (by omega) (by omega)))
  clear hb
  cases hv : tasksB room (ts.map pv)
  · have hv1 : v = -1 := by rw [← HVv.out]; exact bestI_no hv
    subst hv1
    clear hv
    go_wp2_with fail
    go_ret
    exact ⟨by simp, HB.out⟩
  have HV := Lib.hid hv; clear hv
  have hv0 : 0 ≤ v := by rw [← HVv.out]; exact bestI_lo HV.out
  have hvl : v ≤ ts.length := by rw [← HVv.out]; have := bestI_hi HV.out; rwa [List.length_map] at this
  obtain ⟨u1, hu1⟩ : ∃ u, boundS room (ts.map pv) = u := ⟨_, rfl⟩
  obtain ⟨u2, hu2⟩ : ∃ u, apartI room (ts.map pv) = u := ⟨_, rfl⟩
  have HU1 := Lib.hid hu1
  have HU2 := Lib.hid hu2
  have hvm : v = max u1 u2 := by rw [← HVv.out, bestI, hu1, hu2]
  have HVM := Lib.hid hvm
  clear hu1 hu2 hvm
  go_wp2_with fail
  refine (boundSum_any A1 c1 _ _ room B1 d1 _ _ ts w3 HI.out (by omega) HT.out (by omega) HNL.out HWF.out (by omega) (by omega)).mono ?_; rintro e w4 ⟨rfl, hb⟩
  rw [HU1.out]
  have hsw4 := hb.size
  first | replace HI := Lib.hid (Ints.only HI.out hb (by omega) (by omega)) | replace HI := Lib.hid (Ints.below HI.out hb (by omega))
  first | replace HT := Lib.hid (Tasks.only HT.out hb (by omega) (by omega)) | replace HT := Lib.hid (Tasks.below HT.out hb (by omega))
  first | replace HB := Lib.hid (Below.trans HB.out (Below.mono hb (by omega))) | replace HB := Lib.hid (Below.trans HB.out (Only.below hb (by omega) (by omega)))
  clear hb
  go_wp2_with fail
  refine (boundApart_any A1 c1 _ _ room B1 d1 _ _ ts w4 HI.out (by omega) HT.out (by omega) HNL.out HWF.out (by omega) (by omega)).mono ?_; rintro e w5 ⟨rfl, hb⟩
  rw [HU2.out]
  have hsw5 := hb.size
  first | replace HI := Lib.hid (Ints.only HI.out hb (by omega) (by omega)) | replace HI := Lib.hid (Ints.below HI.out hb (by omega))
  first | replace HT := Lib.hid (Tasks.only HT.out hb (by omega) (by omega)) | replace HT := Lib.hid (Tasks.below HT.out hb (by omega))
  first | replace HB := Lib.hid (Below.trans HB.out (Below.mono hb (by omega))) | replace HB := Lib.hid (Below.trans HB.out (Only.below hb (by omega) (by omega)))
  clear hb
  by_cases hlt : u1 < u2
  · have hq : (v == u2) = true := beq_iff_eq.2 (by rw [HVM.out]; omega)
    have hq2 : v ≤ (ts.length : Int) := hvl
    go_wp2_with fail
    go_ret
    exact ⟨by simp, HB.out⟩
  · have hq : (v == u1) = true := beq_iff_eq.2 (by rw [HVM.out]; omega)
    go_wp2_with fail
    go_ret
    exact ⟨by simp, HB.out⟩
end Go.Proofs.Ytlkhfmpkbjemhaa
