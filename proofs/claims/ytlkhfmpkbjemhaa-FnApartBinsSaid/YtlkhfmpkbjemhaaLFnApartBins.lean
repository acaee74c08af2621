/- The walk of one statement: by the contracts of what it calls it returns true and changes nothing that was there. No condition. -/
import Derived.Test.YtlkhfmpkbjemhaaSm
namespace Go.Proofs.Ytlkhfmpkbjemhaa
open Go.RowKit
set_option maxHeartbeats 1000000 in
theorem FnApartBins_walk (A : Option Addr) (n c : Nat) (w : World) (hA : BytesR w w.heap.size A n) (hc : n ≤ c) (hm : c ≤ maxLen) :
    Calls Try.prog 3 #[.slice A n c] w fun e w' => e = .returned (.bool true) ∧ Below w.heap.size w w' := by
  have HA := Lib.hid hA; clear hA
  by_cases hn : 1048576 < n
  · go_enter Try.func3, Try.ntmps3
    go_wp2
    go_ret
    exact ⟨by simp, Below.refl _ _⟩
  have hnd : ¬ ((1048576 : Int) < (n : Int)) := by omega
  go_enter Try.func3, Try.ntmps3
  go_wp2_with fail
  refine (DrawBoundApart_any A n c w HA.out hc hm).mono ?_; rintro e w1 ⟨A1, c1, room, B1, d1, ts, rfl, hI, hg, hT, hgt, hl, hb⟩
  have HI := Lib.hid hI; clear hI
  have HG := Lib.hid hg; clear hg
  have HT := Lib.hid hT; clear hT
  have HGT := Lib.hid hgt; clear hgt
  have HB := Lib.hid hb; clear hb
  have hs1 := HB.out.size
  have hlr : room.length ≤ 3 := Nat.le_of_eq HG.out.1
  have hnl : ∀ t, t ∈ ts → t.need.length ≤ 1048576 := fun t ht => by have := (HGT.out t ht).1.1; omega
  have HNL := Lib.hid hnl; clear hnl
  have HWF := Lib.hid (fun t ht => (HGT.out t ht).wf : ∀ t, t ∈ ts → (Lit.int .i64 t.id).wf = true)
  obtain ⟨v, hv⟩ : ∃ v, apartI room (ts.map pv) = v := ⟨_, rfl⟩
  have HVv := Lib.hid hv; clear hv
  go_wp2_with fail
  refine (boundApart_any A1 c1 _ _ room B1 d1 _ _ ts w1 HI.out (by omega) HT.out (by omega) HNL.out HWF.out (by omega) (by omega)).mono ?_; rintro e w2 ⟨rfl, hb⟩
  rw [HVv.out]
  have hsw2 := hb.size
  first | replace HI := Lib.hid (Ints.only HI.out hb (by omega) (by omega)) | replace HI := Lib.hid (Ints.below HI.out hb (by omega))
  first | replace HT := Lib.hid (Tasks.only HT.out hb (by omega) (by omega)) | replace HT := Lib.hid (Tasks.below HT.out hb (by omega))
  first | replace HB := Lib.hid (Below.trans HB.out (Below.mono hb (by omega))) | replace HB := Lib.hid (Below.trans HB.out (Only.below hb (by omega) (by omega)))
  clear hb
  go_wp2_with fail
  refine (boundApartS_any A1 c1 _ _ room B1 d1 _ _ ts w2 HI.out (by omega) HT.out (by omega) HNL.out (by omega) (by omega)).mono ?_; rintro e w3 ⟨rfl, hb⟩
  rw [HVv.out]
  have hsw3 := hb.size
  first | replace HI := Lib.hid (Ints.only HI.out hb (by omega) (by omega)) | replace HI := Lib.hid (Ints.below HI.out hb (by omega))
  first | replace HT := Lib.hid (Tasks.only HT.out hb (by omega) (by omega)) | replace HT := Lib.hid (Tasks.below HT.out hb (by omega))
  first | replace HB := Lib.hid (Below.trans HB.out (Below.mono hb (by omega))) | replace HB := Lib.hid (Below.trans HB.out (Only.below hb (by omega) (by omega)))
  clear hb
  cases hv : tasksB room (ts.map pv)
  · have hv1 : v = -1 := by rw [← HVv.out]; exact apartI_no' hv
    subst hv1
    clear hv
    go_wp2_with fail
    go_ret
    exact ⟨by simp, HB.out⟩
  have HV := Lib.hid hv; clear hv
  have hv0 : 0 ≤ v := by rw [← HVv.out]; exact apartI_lo HV.out
  by_cases hl0 : ts.length = 0
  · have hl0' : (ts.length : Int) = 0 := by omega
    go_wp2_with fail
    go_ret
    exact ⟨by simp, HB.out⟩
  have hl0' : ((ts.length : Int) == 0) = false := beq_eq_false_iff_ne.2 (by omega)
  obtain ⟨k, hk⟩ : ∃ k : Nat, ts.length = k + 1 := ⟨ts.length - 1, by omega⟩
  have hkw : IntKind.i64.wrap ((ts.length : Int) - 1) = (k : Int) := by rw [wrap_small (by omega)]; omega
  have hdl := HT.out.len.1
  have hkd : k ≤ d1 := by omega
  have hkl : k ≤ ts.length := by omega
  have hor := apartI_last HV.out (by rw [List.length_map]; exact hk)
  rw [HVv.out] at hor
  obtain ⟨u, hu⟩ : ∃ u, apartI room ((ts.map pv).take k) = u := ⟨_, rfl⟩
  rw [hu] at hor
  have h5 := boundApart_any A1 c1 _ _ room B1 d1 _ _ (ts.take k) w3 HI.out (by omega) (HT.out.take hkl) (by simp; omega) (fun t ht => HNL.out t (List.mem_of_mem_take ht)) (fun t ht => HWF.out t (List.mem_of_mem_take ht)) (by omega) (by omega)
  rw [List.map_take, hu, List.length_take, Nat.min_eq_left hkl] at h5
  have H5 := Lib.hid h5; clear h5 hu hk
  have hvb : v ≤ 16 := by have := (apartI_bd (room := room) (ps := ts.map pv)).2; rw [HVv.out, List.length_map] at this; omega
  have hvw : IntKind.i64.wrap (v - 1) = v - 1 := wrap_small (by omega)
  go_wp2_with fail
  refine H5.out.mono ?_; rintro e w4 ⟨rfl, hb⟩
  first | replace HB := Lib.hid (Below.trans HB.out (Below.mono hb (by omega))) | replace HB := Lib.hid (Below.trans HB.out (Only.below hb (by omega) (by omega)))
  clear hb
  rcases hor with h | h
  · have h9 : (u == v) = true := beq_iff_eq.2 h
    clear h
    go_wp2_with fail
    go_ret
    exact ⟨by simp, HB.out⟩
  · have h9 : (u == v) = false := beq_eq_false_iff_ne.2 (by omega)
    have h8 : (u == v - 1) = true := beq_iff_eq.2 (by omega)
    clear h
    go_wp2_with fail
    go_ret
    exact ⟨by simp, HB.out⟩
end Go.Proofs.Ytlkhfmpkbjemhaa
