/- The walk of one statement: by the contracts of what it calls it returns true and changes nothing that was there. No condition. -/
import Derived.Test.YthfhlcmgeacddaaAp
namespace Go.Proofs.Ythfhlcmgeacddaa
open Go.RowKit
set_option maxHeartbeats 2000000 in
theorem FnLoad_walk (A : Option Addr) (n c : Nat) (B : Option Addr) (m d : Nat) (w : World) (hA : BytesR w w.heap.size A n) (hc : n ≤ c) (hm : c ≤ maxLen) (_hB : BytesR w w.heap.size B m) (_hd : m ≤ d) (_hm2 : d ≤ maxLen) :
    Calls Try.prog 12 #[.slice A n c, .slice B m d] w fun e w' => e = .returned (.bool true) ∧ Below w.heap.size w w' := by
  have HA := Lib.hid hA; clear hA
  by_cases hn : 1048576 < n
  · go_enter Try.func12, Try.ntmps12
    go_wp2
    go_ret
    exact ⟨by simp, Below.refl _ _⟩
  have hnd : ¬ ((1048576 : Int) < (n : Int)) := by omega
  by_cases hmm : 1048576 < m
  · go_enter Try.func12, Try.ntmps12
    go_wp2
    go_ret
    exact ⟨by simp, Below.refl _ _⟩
  have hmd : ¬ ((1048576 : Int) < (m : Int)) := by omega
  go_enter Try.func12, Try.ntmps12
  go_wp2_with fail
  refine (DrawBinLoad_any A n c w HA.out hc hm).mono ?_; rintro e w1 ⟨A1, c1, room, B1, d1, ts, rfl, hI, hg, hT, hgt, hl, hb⟩
  have HI := Lib.hid hI; clear hI
  have HG := Lib.hid hg; clear hg
  have HT := Lib.hid hT; clear hT
  have HGT := Lib.hid hgt; clear hgt
  have HB := Lib.hid hb; clear hb
  have hs1 := HB.out.size
  have hlr : room.length ≤ 3 := Nat.le_of_eq HG.out.1
  have hnl : ∀ t, t ∈ ts → t.need.length ≤ 1048576 := fun t ht => by have := (HGT.out t ht).1.1; omega
  have HNL := Lib.hid hnl; clear hnl
  have HWF := Lib.hid (fun t ht => (HGT.out t ht).wf : ∀ t, t ∈ ts → (Lit.int .i64 t.id).wf = true)
  cases hv : tasksB room (ts.map pv)
  · have h5 := binLoad_any A1 c1 _ _ room B1 d1 _ _ ts w1 HI.out (by omega) HT.out (by omega) HNL.out HWF.out (by omega) (by omega)
    rw [binLoad_no hv] at h5
    have H5 := Lib.hid h5; clear h5
    go_wp2_with fail
    refine H5.out.mono ?_; rintro e w2 ⟨A2, c2, rfl, hI2, hb⟩
    have hs2 := hb.size
    first | replace HI := Lib.hid (Ints.only HI.out hb (by omega) (by omega)) | replace HI := Lib.hid (Ints.below HI.out hb (by omega))
    first | replace HT := Lib.hid (Tasks.only HT.out hb (by omega) (by omega)) | replace HT := Lib.hid (Tasks.below HT.out hb (by omega))
    first | replace HB := Lib.hid (Below.trans HB.out (Below.mono hb (by omega))) | replace HB := Lib.hid (Below.trans HB.out (Only.below hb (by omega) (by omega)))
    clear hb H5
    have HI2 := Lib.hid hI2; clear hI2
    have h6 := binLoadS_any A1 c1 _ _ room B1 d1 _ _ ts w2 HI.out (by omega) HT.out (by omega) HNL.out (by omega) (by omega)
    rw [binLoad_no hv] at h6
    have H6 := Lib.hid h6; clear h6 hv
    go_wp2_with fail
    refine H6.out.mono ?_; rintro e w3 ⟨A3, c3, rfl, hI3, hb⟩
    have hs3 := hb.size
    first | replace HI2 := Lib.hid (Ints.only HI2.out hb (by omega) (by omega)) | replace HI2 := Lib.hid (Ints.below HI2.out hb (by omega))
    first | replace HB := Lib.hid (Below.trans HB.out (Below.mono hb (by omega))) | replace HB := Lib.hid (Below.trans HB.out (Only.below hb (by omega) (by omega)))
    clear hb H6
    have HI3 := Lib.hid hI3; clear hI3
    go_wp2_with fail
    refine (sameInts_eq A2 A3 c2 c3 _ _ _ _ [] w3 HI2.out HI3.out (by simp)).mono ?_; rintro e w4 ⟨rfl, hd⟩
    replace HB := Lib.hid (HB.out.trans ((drawn_below hd).mono HB.out.size))
    replace HI2 := Lib.hid (HI2.out.below (drawn_below hd) (by omega))
    replace HI3 := Lib.hid (HI3.out.below (drawn_below hd) (by omega))
    clear hd
    go_wp2_with fail
    refine (sameInts_eq A2 A3 c2 c3 _ _ _ _ [] w4 HI2.out HI3.out (by simp)).mono ?_; rintro e w5 ⟨rfl, hd⟩
    replace HB := Lib.hid (HB.out.trans ((drawn_below hd).mono HB.out.size))
    clear hd
    go_wp2_with fail
    go_ret
    exact ⟨by simp, HB.out⟩
  have HV := Lib.hid hv; clear hv
  have h5 := binLoad_any A1 c1 _ _ room B1 d1 _ _ ts w1 HI.out (by omega) HT.out (by omega) HNL.out HWF.out (by omega) (by omega)
  rw [binLoad_yes HV.out] at h5
  have H5 := Lib.hid h5; clear h5
  go_wp2_with fail
  refine H5.out.mono ?_; rintro e w2 ⟨A2, c2, rfl, hI2, hb⟩
  rw [loadL_len]
  have hs2 := hb.size
  first | replace HI := Lib.hid (Ints.only HI.out hb (by omega) (by omega)) | replace HI := Lib.hid (Ints.below HI.out hb (by omega))
  first | replace HT := Lib.hid (Tasks.only HT.out hb (by omega) (by omega)) | replace HT := Lib.hid (Tasks.below HT.out hb (by omega))
  first | replace HB := Lib.hid (Below.trans HB.out (Below.mono hb (by omega))) | replace HB := Lib.hid (Below.trans HB.out (Only.below hb (by omega) (by omega)))
  clear hb H5
  have HI2 := Lib.hid hI2; clear hI2
  have h6 := binLoadS_any A1 c1 _ _ room B1 d1 _ _ ts w2 HI.out (by omega) HT.out (by omega) HNL.out (by omega) (by omega)
  rw [binLoad_yes HV.out] at h6
  have H6 := Lib.hid h6; clear h6
  go_wp2_with fail
  refine H6.out.mono ?_; rintro e w3 ⟨A3, c3, rfl, hI3, hb⟩
  rw [loadL_len]
  have hs3 := hb.size
  first | replace HI := Lib.hid (Ints.only HI.out hb (by omega) (by omega)) | replace HI := Lib.hid (Ints.below HI.out hb (by omega))
  first | replace HT := Lib.hid (Tasks.only HT.out hb (by omega) (by omega)) | replace HT := Lib.hid (Tasks.below HT.out hb (by omega))
  first | replace HI2 := Lib.hid (Ints.only HI2.out hb (by omega) (by omega)) | replace HI2 := Lib.hid (Ints.below HI2.out hb (by omega))
  first | replace HB := Lib.hid (Below.trans HB.out (Below.mono hb (by omega))) | replace HB := Lib.hid (Below.trans HB.out (Only.below hb (by omega) (by omega)))
  clear hb H6
  have HI3 := Lib.hid hI3; clear hI3
  have h7 := sameInts_eq A2 A3 c2 c3 _ _ _ _ (loadL (needs ts)) w3 HI2.out HI3.out (by rw [loadL_len]; omega)
  rw [loadL_len] at h7
  have H7 := Lib.hid h7; clear h7
  go_wp2_with fail
  refine H7.out.mono ?_; rintro e w4 ⟨rfl, hd⟩
  have hb := drawn_below hd; clear hd H7
  have hs4 := hb.size
  first | replace HI := Lib.hid (Ints.only HI.out hb (by omega) (by omega)) | replace HI := Lib.hid (Ints.below HI.out hb (by omega))
  first | replace HT := Lib.hid (Tasks.only HT.out hb (by omega) (by omega)) | replace HT := Lib.hid (Tasks.below HT.out hb (by omega))
  first | replace HI2 := Lib.hid (Ints.only HI2.out hb (by omega) (by omega)) | replace HI2 := Lib.hid (Ints.below HI2.out hb (by omega))
  first | replace HI3 := Lib.hid (Ints.only HI3.out hb (by omega) (by omega)) | replace HI3 := Lib.hid (Ints.below HI3.out hb (by omega))
  first | replace HB := Lib.hid (Below.trans HB.out (Below.mono hb (by omega))) | replace HB := Lib.hid (Below.trans HB.out (Only.below hb (by omega) (by omega)))
  clear hb
  by_cases hl0 : ts.length = 0
  · have hl0' : ((ts.length : Int) == 0) = true := beq_iff_eq.2 (by omega)
    have h7 := sameInts_eq A2 A3 c2 c3 _ _ _ _ (loadL (needs ts)) w4 HI2.out HI3.out (by rw [loadL_len]; omega)
    rw [loadL_len] at h7
    have H7 := Lib.hid h7; clear h7
    go_wp2_with fail
    refine H7.out.mono ?_; rintro e w5 ⟨rfl, hd⟩
    have hb := drawn_below hd; clear hd H7
    first | replace HB := Lib.hid (Below.trans HB.out (Below.mono hb (by omega))) | replace HB := Lib.hid (Below.trans HB.out (Only.below hb (by omega) (by omega)))
    clear hb
    go_wp2_with fail
    go_ret
    exact ⟨by simp, HB.out⟩
  have hl0' : ((ts.length : Int) == 0) = false := beq_eq_false_iff_ne.2 (by omega)
  obtain ⟨k, hk, hkl⟩ : ∃ k : Nat, (m : Int).tmod (ts.length : Int) = k ∧ k < ts.length := ⟨m % ts.length, by rw [Int.ofNat_tmod], Nat.mod_lt _ (by omega)⟩
  have hkl' : (k : Int) < ts.length := by omega
  have hk1 : IntKind.i64.wrap ((k : Int) + 1) = (k : Int) + 1 := wrap_small (by omega)
  have hdl1 := HT.out.len.1
  have hkd : k ≤ d1 := by omega
  have hkd1 : k + 1 ≤ d1 := by omega
  have hkdi : (k : Int) + 1 ≤ d1 := by omega
  have hk0 : (0 : Int) ≤ (k : Int) + 1 := by omega
  have hk0' : (0 : Int) ≤ (k : Int) := by omega
  have hkt : (k : Int) + 1 ≤ ts.length := by omega
  have hkt' : (k : Int) ≤ ts.length := by omega
  obtain ⟨wa, hwa⟩ : ∃ W, W = (w4.alloc (.cells #[] 25)).drew := ⟨_, rfl⟩
  have hal : Below w4.heap.size w4 wa := by rw [hwa]; exact ((Below.refl _ _).alloc (Nat.le_refl _) _).drew
  have hsa := hal.size
  have HT0 := Lib.hid (HT.out.below hal (by omega))
  have HO0 : Hid (wa.ownsRow w4.heap.size 25 2 (.slice (some ⟨w4.heap.size, 0, none⟩) 0 0) 0 []) := Lib.hid (by rw [hwa]; exact ownsRow_heap (ownsRow_empty w4 25 2) rfl)
  have HWa := Lib.hid hwa
  have HBa := Lib.hid hal
  have hxl : ts.length - (k + 1) + k = ts.length - 1 := by omega
  obtain ⟨xs, hxs⟩ : ∃ xs, xs = ts.take k ++ ts.drop (k + 1) := ⟨_, rfl⟩
  have hxn : k + (ts.length - (k + 1)) = xs.length := by rw [hxs, two_len (by omega)]
  have HXS := Lib.hid hxs
  have HXN := Lib.hid hxn
  have htx : tasksB room (xs.map pv) = true := by rw [hxs, List.map_append, List.map_take, List.map_drop]; exact tasks_out HV.out k
  have HTX := Lib.hid htx
  have hmx : ∀ t, t ∈ xs → t ∈ ts := by rw [hxs]; exact mem_two
  have HMX := Lib.hid hmx
  have hxl16 : xs.length ≤ 16 := by omega
  clear hwa hal hxs hxn htx hmx
  go_wp2_with fail
  go_region_held3 (fun _ => True) (trivial)
    (first
      | (rw [← HWa.out]; refine step_appC elT rfl (.tmp 54) (.tmp 57) rfl wa HO0.out B1 k d1 (trow (ts.take k)) rfl rfl (by have := (HT0.out.take (k := k) (by omega)).1; rwa [List.length_take, Nat.min_eq_left (by omega)] at this) (trow_one _) (by omega) (by simp only [maxLen]; omega) (by omega) ?_; intro A5 c5 w5 hown2 hb2 hg2; have HW2 := Lib.hid hown2; have HT1 := Lib.hid (HT0.out.below hb2 (by omega)); have hs5 := hb2.size; have HB2 := Lib.hid hb2; clear hown2 hb2 hg2)
      | (refine step_appC elT rfl (.tmp 58) (.tmp 62) rfl w5 HW2.out _ (ts.length - (k + 1)) (d1 - (k + 1)) (trow (ts.drop (k + 1))) rfl rfl (by have := (HT1.out.drop (k := k + 1) (by omega)).1; rwa [List.length_drop] at this) (trow_one _) (by omega) (by simp only [maxLen]; omega) (by omega) ?_; intro A6 c6 w6 hown3 hb3 hg3; have hs6 := hb3.size; have HB3 := Lib.hid (HBa.out.trans (HB2.out.trans hb3)); have HX := Lib.hid (Tasks.two HT.out HB3.out (by omega) (by omega) hown3 (by rw [two_len (by omega)]; omega)); rw [← HXS.out] at HX; clear hown3 hb3 hg3; generalize (if d1 = k + 1 then B1 else Option.map (fun x => x.add ((k + 1) * 2)) B1) = B2)
      | (go_at_call 37; rw [HXN.out]; have h8 := binLoad_any A1 c1 _ _ room A6 c6 _ _ xs w6 (HI.out.below HB3.out (by omega)) (by omega) HX.out (by omega) (fun t ht => HNL.out t (HMX.out t ht)) (fun t ht => HWF.out t (HMX.out t ht)) (by omega) (Nat.le_refl _); rw [binLoad_yes HTX.out] at h8; refine h8.mono ?_; rintro e w7 ⟨A7, c7, rfl, hI7, hb7⟩; have hb8 := HB3.out.trans (hb7.mono (by omega)); have hs7 := hb8.size; have HI7 := Lib.hid hI7; replace HT := Lib.hid (HT.out.below hb8 (by omega)); replace HI2 := Lib.hid (HI2.out.below hb8 (by omega)); replace HB := Lib.hid (HB.out.trans (hb8.mono (by omega))); clear h8 hI7 hb7 hb8))
  clear HO0 HT0 HT1 HW2 HB2 HB3 HX HWa HBa
  rw [loadL_len]
  obtain ⟨b1, off1, t, hB1, ht, hd1, hd2, _, _, hN⟩ := HT.out.at_ hkl
  subst hB1
  have HN := Lib.hid hN
  have hn3 := (HGT.out t (List.mem_of_getElem? ht)).1
  have HN3 := Lib.hid hn3
  have HTk := Lib.hid ht
  have hsm1 := load_small2 (tasks_good HV.out) (by omega)
  have hsm2 := load_small2 (tasks_good HTX.out) (by omega)
  have HS1 := Lib.hid hsm1
  have HS2 := Lib.hid hsm2
  clear hN hn3 ht hsm1 hsm2
  go_wp2_with fail
  go_loopw [11] (fun i wr => ∃ j n2 : Nat, j ≤ 3 ∧ i = .int .i64 j ∧ wr = w7.drewN n2) (fun i _ => 3 - (intOf i).toNat)
  case atStart => exact ⟨0, 0, by omega, rfl, rfl⟩
  case round =>
    obtain ⟨j, n2, hj, rfl, rfl⟩ := hrel
    by_cases hlt : j < 3
    · obtain ⟨a, b, y, ha, hb, hy, hab⟩ := load_out HTk.out hlt HN3.out.1
      rw [← HXS.out] at hb
      obtain ⟨b2, off2, a', rfl, ha', hc1, _, _, _⟩ := HI2.out.at_ (k := j) (by rw [loadL_len]; exact hlt)
      obtain rfl : a' = a := by rw [ha] at ha'; exact (Option.some.inj ha').symm
      obtain ⟨b3, off3, b', rfl, hb', hc3, _, _, _⟩ := HI7.out.at_ (k := j) (by rw [loadL_len]; exact hlt)
      obtain rfl : b' = b := by rw [hb] at hb'; exact (Option.some.inj hb').symm
      obtain ⟨b4, off4, y', hta, hy', hc4, _, _, _⟩ := HN.out.at_ (k := j) (by rw [HN3.out.1]; exact hlt)
      obtain rfl : y' = y := by rw [hy] at hy'; exact (Option.some.inj hy').symm
      have hab1 := HS1.out a' (List.mem_of_getElem? ha)
      have hbb1 := HS2.out b' (List.mem_of_getElem? hb)
      have hyb1 := HN3.out.2 y' (List.mem_of_getElem? hy)
      have hw1 : IntKind.i64.wrap (b' + y') = a' := by rw [wrap_small (by omega)]; exact hab.symm
      have hjn : (j : Int) < (t.need.length : Int) := by rw [HN3.out.1]; omega
      have hjn' : j < t.need.length := by rw [HN3.out.1]; omega
      have hj3 : (j : Int) < 3 := by omega
      rw [hta] at hd2
      clear ha ha' hb hb' hy hy' hab
      go_wp2_with fail
      go_quiet (fail)
      go_wp2_with fail
      exact ⟨⟨j + 1, _, by omega, by go_num, rfl⟩, by simp [intOf]; omega⟩
    · go_wp2_with fail
      go_ret
      exact ⟨by simp, HB.out.trans ((drawn_below ⟨n2, rfl⟩).mono HB.out.size)⟩
end Go.Proofs.Ythfhlcmgeacddaa
