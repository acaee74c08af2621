/- The walk of one exact statement: by the contracts of what it calls it returns true and changes nothing that was there. No condition. -/
import Derived.Test.YtpjipofkpikipaaIm
namespace Go.Proofs.Ytpjipofkpikipaa
open Go.RowKit
set_option maxHeartbeats 4000000 in
theorem FnExactIndexOf_walk (B : Option Addr) (d : Nat) (ts : List RowV) (w : World) (hB : RwsR w w.heap.size B ts) (hmb : ts.length ≤ maxLen ∧ ∀ t, t ∈ ts → t.xs.length ≤ maxLen) :
    Calls Try.prog 4 #[.slice B ts.length d] w fun e w' => e = .returned (.bool true) ∧ Below w.heap.size w w' := by
  have HC := Lib.hid hB; clear hB
  have HML := Lib.hid (fun t ht => hmb.2 t ht : ∀ t, t ∈ ts → t.xs.length ≤ maxLen)
  have hml := hmb.1
  clear hmb
  have HB := Lib.hid (Below.refl w.heap.size w)
  go_enter Try.func4, Try.ntmps4
  go_wp2_with fail
  refine (szIntSS_any B d _ ts 1048576 w HC.out (by omega) hml HML.out (Nat.le_refl _)).mono ?_; rintro e w1 ⟨u, rfl, hu, hb⟩
  have hs1 := hb.size
  first | replace HC := Lib.hid (RwsR.below HC.out hb (by omega)) | replace HC := Lib.hid (RwsR.below HC.out (Only.below hb (by omega) (by omega)) (by omega))
  first | replace HB := Lib.hid (Below.trans HB.out (Below.mono hb (by omega))) | replace HB := Lib.hid (Below.trans HB.out (Only.below hb (by omega) (by omega)))
  clear hb
  by_cases hu0 : u < 0
  · go_wp2_with fail
    go_ret
    exact ⟨by simp, HB.out⟩
  have hle := (hu (by omega)).1
  have HLE := Lib.hid (hu (by omega)).2
  clear hu hml HML
  obtain ⟨v, hv⟩ : ∃ v, idxOf (ts.map RowV.xs) = v := ⟨_, rfl⟩
  have HVv := Lib.hid hv
  have HSH : Hid (∀ r, r ∈ v → r.length ≤ 3) := Lib.hid (by rw [← hv]; exact idxOf_short _)
  have HLN : Hid (v.length ≤ 32) := Lib.hid (by rw [← hv]; exact idxOf_le _)
  clear hv
  go_wp2_with fail
  refine (toIntSST_any B d _ ts w1 HC.out (by omega) HLE.out (by omega)).mono ?_; rintro e w2 ⟨T2, Z2, us2, hum, hul, rfl, hR, hT, ⟨ht2, hh2, hk2⟩, hb⟩
  have hs2 := hb.size
  first | replace HC := Lib.hid (RwsR.below HC.out hb (by omega)) | replace HC := Lib.hid (RwsR.below HC.out (Only.below hb (by omega) (by omega)) (by omega))
  first | replace HB := Lib.hid (Below.trans HB.out (Below.mono hb (by omega))) | replace HB := Lib.hid (Below.trans HB.out (Only.below hb (by omega) (by omega)))
  clear hb
  have HX1 := Lib.hid hR; have HX1L := Lib.hid hul; have HX1M := Lib.hid hum; clear hul hum hR; clear hT
  go_wp2_with fail
  have h5 := indexOfS_any (some ⟨T2, 0, none⟩) ts.length _ _ us2 w2 HX1.out (by rw [HX1L.out]; omega) (same_xs (Q := fun x => x.length ≤ 1048576) HX1M.out HLE.out) (by omega)
  rw [HX1L.out, HX1M.out, HVv.out] at h5
  have H5 := Lib.hid h5; clear h5
  refine (H5.out).mono ?_; rintro e w3 h
  obtain ⟨A3, c3, T3, Z3, rs3, hum, rfl, hR, hT, ⟨ht3, hh3, hk3⟩, hb⟩ := h.tab
  clear h
  have hs3 := hb.size
  first | replace HC := Lib.hid (RwsR.below HC.out hb (by omega)) | replace HC := Lib.hid (RwsR.below HC.out (Only.below hb (by omega) (by omega)) (by omega))
  first | replace HB := Lib.hid (Below.trans HB.out (Below.mono hb (by omega))) | replace HB := Lib.hid (Below.trans HB.out (Only.below hb (by omega) (by omega)))
  first | replace HX1 := Lib.hid (Rws.only HX1.out hb (by omega) (by omega)) | replace HX1 := Lib.hid (Rws.below HX1.out hb (by omega))
  clear hb
  have HW0 := Lib.hid hR; have HW0T := Lib.hid hT; clear hR hT H5
  have HW0S := Lib.hid (short_rows hum HSH.out)
  have HW0M := Lib.hid hum
  have hrl3 : rs3.length ≤ 32 := by rw [rows_len hum]; exact HLN.out
  clear hum
  clear HX1
  go_wp2_with fail
  refine (toIntSST_any B d _ ts w3 HC.out (by omega) HLE.out (by omega)).mono ?_; rintro e w4 ⟨T4, Z4, us4, hum, hul, rfl, hR, hT, ⟨ht4, hh4, hk4⟩, hb⟩
  have hs4 := hb.size
  first | replace HC := Lib.hid (RwsR.below HC.out hb (by omega)) | replace HC := Lib.hid (RwsR.below HC.out (Only.below hb (by omega) (by omega)) (by omega))
  first | replace HB := Lib.hid (Below.trans HB.out (Below.mono hb (by omega))) | replace HB := Lib.hid (Below.trans HB.out (Only.below hb (by omega) (by omega)))
  first | replace HW0 := Lib.hid (Rws.only HW0.out hb (by omega) (by omega)) | replace HW0 := Lib.hid (Rws.below HW0.out hb (by omega))
  first | replace HW0T := Lib.hid (TabH.only HW0T.out hb (by omega) (by omega)) | replace HW0T := Lib.hid (TabH.below HW0T.out hb (by omega))
  clear hb
  have HX2 := Lib.hid hR; have HX2L := Lib.hid hul; have HX2M := Lib.hid hum; clear hul hum hR
  have HX2T := Lib.hid hT; clear hT
  go_wp2_with fail
  have h5 := indexOf_any (some ⟨T4, 0, none⟩) ts.length _ _ us4 w4 HX2.out (by rw [HX2L.out]; omega) (same_xs (Q := fun x => x.length ≤ 1048576) HX2M.out HLE.out) (by omega)
  rw [HX2L.out, HX2M.out, HVv.out] at h5
  have H5 := Lib.hid h5; clear h5
  refine (H5.out).mono ?_; rintro e w5 h
  obtain ⟨A5, c5, T5, Z5, rs5, hum, rfl, hR, hT, ⟨ht5, hh5, hk5⟩, hb⟩ := h.tab
  clear h
  have hs5 := hb.size
  first | replace HC := Lib.hid (RwsR.below HC.out hb (by omega)) | replace HC := Lib.hid (RwsR.below HC.out (Only.below hb (by omega) (by omega)) (by omega))
  first | replace HB := Lib.hid (Below.trans HB.out (Below.mono hb (by omega))) | replace HB := Lib.hid (Below.trans HB.out (Only.below hb (by omega) (by omega)))
  first | replace HW0 := Lib.hid (Rws.only HW0.out hb (by omega) (by omega)) | replace HW0 := Lib.hid (Rws.below HW0.out hb (by omega))
  first | replace HW0T := Lib.hid (TabH.only HW0T.out hb (by omega) (by omega)) | replace HW0T := Lib.hid (TabH.below HW0T.out hb (by omega))
  first | replace HX2 := Lib.hid (Rws.only HX2.out hb (by omega) (by omega)) | replace HX2 := Lib.hid (Rws.below HX2.out hb (by omega))
  first | replace HX2T := Lib.hid (TabH.only HX2T.out hb (by omega) (by omega)) | replace HX2T := Lib.hid (TabH.below HX2T.out hb (by omega))
  clear hb
  have HG0 := Lib.hid hR; have HG0T := Lib.hid hT; clear hR hT H5
  have HG0S := Lib.hid (short_rows hum HSH.out)
  have HG0M := Lib.hid hum
  have hrl5 : rs5.length ≤ 32 := by rw [rows_len hum]; exact HLN.out
  clear hum
  go_wp2_with fail
  refine (eqIntSS_eq A5 A3 c5 c3 _ _ _ _ rs5 rs3 w5 HG0.out HW0.out (by rw [HG0M.out, HW0M.out]) (by omega) (fun t ht => by have := HG0S.out t ht; omega)).mono ?_; rintro e w6 ⟨rfl, hd⟩
  have hb := drawn_below hd; clear hd
  have hs6 := hb.size
  first | replace HC := Lib.hid (RwsR.below HC.out hb (by omega)) | replace HC := Lib.hid (RwsR.below HC.out (Only.below hb (by omega) (by omega)) (by omega))
  first | replace HB := Lib.hid (Below.trans HB.out (Below.mono hb (by omega))) | replace HB := Lib.hid (Below.trans HB.out (Only.below hb (by omega) (by omega)))
  first | replace HW0 := Lib.hid (Rws.only HW0.out hb (by omega) (by omega)) | replace HW0 := Lib.hid (Rws.below HW0.out hb (by omega))
  first | replace HW0T := Lib.hid (TabH.only HW0T.out hb (by omega) (by omega)) | replace HW0T := Lib.hid (TabH.below HW0T.out hb (by omega))
  first | replace HX2 := Lib.hid (Rws.only HX2.out hb (by omega) (by omega)) | replace HX2 := Lib.hid (Rws.below HX2.out hb (by omega))
  first | replace HX2T := Lib.hid (TabH.only HX2T.out hb (by omega) (by omega)) | replace HX2T := Lib.hid (TabH.below HX2T.out hb (by omega))
  first | replace HG0 := Lib.hid (Rws.only HG0.out hb (by omega) (by omega)) | replace HG0 := Lib.hid (Rws.below HG0.out hb (by omega))
  first | replace HG0T := Lib.hid (TabH.only HG0T.out hb (by omega) (by omega)) | replace HG0T := Lib.hid (TabH.below HG0T.out hb (by omega))
  clear hb
  go_wp2_with fail
  refine (toIntSST_any B d _ ts w6 HC.out (by omega) HLE.out (by omega)).mono ?_; rintro e w7 ⟨T7, Z7, us7, hum, hul, rfl, hR, hT, ⟨ht7, hh7, hk7⟩, hb⟩
  have hs7 := hb.size
  first | replace HC := Lib.hid (RwsR.below HC.out hb (by omega)) | replace HC := Lib.hid (RwsR.below HC.out (Only.below hb (by omega) (by omega)) (by omega))
  first | replace HB := Lib.hid (Below.trans HB.out (Below.mono hb (by omega))) | replace HB := Lib.hid (Below.trans HB.out (Only.below hb (by omega) (by omega)))
  first | replace HW0 := Lib.hid (Rws.only HW0.out hb (by omega) (by omega)) | replace HW0 := Lib.hid (Rws.below HW0.out hb (by omega))
  first | replace HW0T := Lib.hid (TabH.only HW0T.out hb (by omega) (by omega)) | replace HW0T := Lib.hid (TabH.below HW0T.out hb (by omega))
  first | replace HX2 := Lib.hid (Rws.only HX2.out hb (by omega) (by omega)) | replace HX2 := Lib.hid (Rws.below HX2.out hb (by omega))
  first | replace HX2T := Lib.hid (TabH.only HX2T.out hb (by omega) (by omega)) | replace HX2T := Lib.hid (TabH.below HX2T.out hb (by omega))
  first | replace HG0 := Lib.hid (Rws.only HG0.out hb (by omega) (by omega)) | replace HG0 := Lib.hid (Rws.below HG0.out hb (by omega))
  first | replace HG0T := Lib.hid (TabH.only HG0T.out hb (by omega) (by omega)) | replace HG0T := Lib.hid (TabH.below HG0T.out hb (by omega))
  clear hb
  have HX3 := Lib.hid hR; have HX3L := Lib.hid hul; have HX3M := Lib.hid hum; clear hul hum hR; clear hT
  go_wp2_with fail
  have h5 := eqIntSS_eq (some ⟨T4, 0, none⟩) (some ⟨T7, 0, none⟩) ts.length ts.length _ _ _ _ us4 us7 w7 HX2.out HX3.out (by rw [HX2M.out, HX3M.out]) (by rw [HX2L.out]; omega) (same_xs (Q := fun x => x.length ≤ 2097152) HX2M.out (fun t ht => by have := HLE.out t ht; omega))
  rw [HX2L.out, HX3L.out] at h5
  have H5 := Lib.hid h5; clear h5
  refine H5.out.mono ?_; rintro e w8 ⟨rfl, hd⟩
  have hb := drawn_below hd; clear hd
  have hs8 := hb.size
  clear H5
  first | replace HC := Lib.hid (RwsR.below HC.out hb (by omega)) | replace HC := Lib.hid (RwsR.below HC.out (Only.below hb (by omega) (by omega)) (by omega))
  first | replace HB := Lib.hid (Below.trans HB.out (Below.mono hb (by omega))) | replace HB := Lib.hid (Below.trans HB.out (Only.below hb (by omega) (by omega)))
  first | replace HW0 := Lib.hid (Rws.only HW0.out hb (by omega) (by omega)) | replace HW0 := Lib.hid (Rws.below HW0.out hb (by omega))
  first | replace HW0T := Lib.hid (TabH.only HW0T.out hb (by omega) (by omega)) | replace HW0T := Lib.hid (TabH.below HW0T.out hb (by omega))
  first | replace HX2 := Lib.hid (Rws.only HX2.out hb (by omega) (by omega)) | replace HX2 := Lib.hid (Rws.below HX2.out hb (by omega))
  first | replace HX2T := Lib.hid (TabH.only HX2T.out hb (by omega) (by omega)) | replace HX2T := Lib.hid (TabH.below HX2T.out hb (by omega))
  first | replace HG0 := Lib.hid (Rws.only HG0.out hb (by omega) (by omega)) | replace HG0 := Lib.hid (Rws.below HG0.out hb (by omega))
  first | replace HG0T := Lib.hid (TabH.only HG0T.out hb (by omega) (by omega)) | replace HG0T := Lib.hid (TabH.below HG0T.out hb (by omega))
  first | replace HX3 := Lib.hid (Rws.only HX3.out hb (by omega) (by omega)) | replace HX3 := Lib.hid (Rws.below HX3.out hb (by omega))
  clear hb
  clear HX3
  go_wp2_with fail
  have h5 := markIntSS_any (some ⟨T4, 0, none⟩) T4 Z4 ts.length us4 1 w8 HX2T.out (by omega) (by rw [HX2L.out]; omega) (same_xs (Q := fun x => x.length ≤ 1048576) HX2M.out HLE.out) (by omega)
  rw [HX2L.out] at h5
  have H5 := Lib.hid h5; clear h5
  clear HX2 HX2T
  have hoff := offR_le (us := us4) (same_xs (Q := fun x => x.length ≤ 1048576) HX2M.out HLE.out) ts.length
  obtain ⟨kk, hkk⟩ : ∃ k : Int, 1 + (offR us4 ts.length : Int) = k := ⟨_, rfl⟩
  have hkb : 0 ≤ kk ∧ kk ≤ 1099511627777 := by omega
  have h6 := H5.out
  rw [hkk] at h6
  replace H5 := Lib.hid h6
  clear hkk hoff h6
  refine H5.out.mono ?_; rintro e w9 ⟨rfl, _, hO, hs⟩
  obtain ⟨hs9, hs9'⟩ := le_le hs; clear hs H5
  first | replace HC := Lib.hid (RwsR.below HC.out hO (by omega)) | replace HC := Lib.hid (RwsR.below HC.out (Only.below hO (by omega) (by omega)) (by omega))
  first | replace HB := Lib.hid (Below.trans HB.out (Below.mono hO (by omega))) | replace HB := Lib.hid (Below.trans HB.out (Only.below hO (by omega) (by omega)))
  first | replace HW0 := Lib.hid (Rws.only HW0.out hO (by omega) (by omega)) | replace HW0 := Lib.hid (Rws.below HW0.out hO (by omega))
  first | replace HW0T := Lib.hid (TabH.only HW0T.out hO (by omega) (by omega)) | replace HW0T := Lib.hid (TabH.below HW0T.out hO (by omega))
  first | replace HG0 := Lib.hid (Rws.only HG0.out hO (by omega) (by omega)) | replace HG0 := Lib.hid (Rws.below HG0.out hO (by omega))
  first | replace HG0T := Lib.hid (TabH.only HG0T.out hO (by omega) (by omega)) | replace HG0T := Lib.hid (TabH.below HG0T.out hO (by omega))
  clear hO
  go_wp2_with fail
  refine (eqIntSS_eq A5 A3 c5 c3 _ _ _ _ rs5 rs3 w9 HG0.out HW0.out (by rw [HG0M.out, HW0M.out]) (by omega) (fun t ht => by have := HG0S.out t ht; omega)).mono ?_; rintro e w10 ⟨rfl, hd⟩
  have hb := drawn_below hd; clear hd
  have hs10 := hb.size
  first | replace HC := Lib.hid (RwsR.below HC.out hb (by omega)) | replace HC := Lib.hid (RwsR.below HC.out (Only.below hb (by omega) (by omega)) (by omega))
  first | replace HB := Lib.hid (Below.trans HB.out (Below.mono hb (by omega))) | replace HB := Lib.hid (Below.trans HB.out (Only.below hb (by omega) (by omega)))
  first | replace HW0 := Lib.hid (Rws.only HW0.out hb (by omega) (by omega)) | replace HW0 := Lib.hid (Rws.below HW0.out hb (by omega))
  first | replace HW0T := Lib.hid (TabH.only HW0T.out hb (by omega) (by omega)) | replace HW0T := Lib.hid (TabH.below HW0T.out hb (by omega))
  first | replace HG0 := Lib.hid (Rws.only HG0.out hb (by omega) (by omega)) | replace HG0 := Lib.hid (Rws.below HG0.out hb (by omega))
  first | replace HG0T := Lib.hid (TabH.only HG0T.out hb (by omega) (by omega)) | replace HG0T := Lib.hid (TabH.below HG0T.out hb (by omega))
  clear hb
  go_wp2_with fail
  have h5 := markIntSS_any A5 T5 Z5 c5 rs5 1 w10 HG0T.out (by omega) (by omega) (fun t ht => by have := HG0S.out t ht; omega) (by omega)
  have h7 := fun W h => heldIntSS_any A5 T5 Z5 c5 rs5 1 W h (by omega) (fun t ht => by have := HG0S.out t ht; omega) (by omega)
  have hoff := offR_le (us := rs5) (fun t ht => by have := HG0S.out t ht; omega) rs5.length
  obtain ⟨mm, hmm⟩ : ∃ k : Int, 1 + (offR rs5 rs5.length : Int) = k := ⟨_, rfl⟩
  have hmb : 0 ≤ mm ∧ mm ≤ 1099511627777 := by omega
  rw [hmm] at h5 h7
  have H5 := Lib.hid h5
  have H7 := Lib.hid h7
  clear hmm hoff h5 h7
  refine H5.out.mono ?_; rintro e w11 ⟨rfl, hM, hO, hs⟩
  obtain ⟨hs11, hs11'⟩ := le_le hs; clear hs H5 HG0 HG0T
  have HM := Lib.hid hM; clear hM
  first | replace HC := Lib.hid (RwsR.below HC.out hO (by omega)) | replace HC := Lib.hid (RwsR.below HC.out (Only.below hO (by omega) (by omega)) (by omega))
  first | replace HB := Lib.hid (Below.trans HB.out (Below.mono hO (by omega))) | replace HB := Lib.hid (Below.trans HB.out (Only.below hO (by omega) (by omega)))
  first | replace HW0 := Lib.hid (Rws.only HW0.out hO (by omega) (by omega)) | replace HW0 := Lib.hid (Rws.below HW0.out hO (by omega))
  first | replace HW0T := Lib.hid (TabH.only HW0T.out hO (by omega) (by omega)) | replace HW0T := Lib.hid (TabH.below HW0T.out hO (by omega))
  clear hO
  go_wp2_with fail
  refine (H7.out _ HM.out).mono ?_; rintro e w' ⟨rfl, rfl⟩
  go_wp2_with fail
  refine (toIntSST_any B d _ ts w11 HC.out (by omega) HLE.out (by omega)).mono ?_; rintro e w12 ⟨T12, Z12, us12, hum, hul, rfl, hR, hT, ⟨ht12, hh12, hk12⟩, hb⟩
  have hs12 := hb.size
  first | replace HC := Lib.hid (RwsR.below HC.out hb (by omega)) | replace HC := Lib.hid (RwsR.below HC.out (Only.below hb (by omega) (by omega)) (by omega))
  first | replace HB := Lib.hid (Below.trans HB.out (Below.mono hb (by omega))) | replace HB := Lib.hid (Below.trans HB.out (Only.below hb (by omega) (by omega)))
  first | replace HW0 := Lib.hid (Rws.only HW0.out hb (by omega) (by omega)) | replace HW0 := Lib.hid (Rws.below HW0.out hb (by omega))
  first | replace HW0T := Lib.hid (TabH.only HW0T.out hb (by omega) (by omega)) | replace HW0T := Lib.hid (TabH.below HW0T.out hb (by omega))
  replace HM := Lib.hid (MarkH.below HM.out hb (by omega))
  clear hb
  have HX4 := Lib.hid hR; have HX4L := Lib.hid hul; have HX4M := Lib.hid hum; clear hul hum hR; clear hT
  go_wp2_with fail
  have h5 := indexOf_any (some ⟨T12, 0, none⟩) ts.length _ _ us12 w12 HX4.out (by rw [HX4L.out]; omega) (same_xs (Q := fun x => x.length ≤ 1048576) HX4M.out HLE.out) (by omega)
  rw [HX4L.out, HX4M.out, HVv.out] at h5
  have H5 := Lib.hid h5; clear h5
  refine (H5.out).mono ?_; rintro e w13 h
  obtain ⟨A13, c13, T13, Z13, rs13, hum, rfl, hR, hT, ⟨ht13, hh13, hk13⟩, hb⟩ := h.tab
  clear h
  have hs13 := hb.size
  first | replace HC := Lib.hid (RwsR.below HC.out hb (by omega)) | replace HC := Lib.hid (RwsR.below HC.out (Only.below hb (by omega) (by omega)) (by omega))
  first | replace HB := Lib.hid (Below.trans HB.out (Below.mono hb (by omega))) | replace HB := Lib.hid (Below.trans HB.out (Only.below hb (by omega) (by omega)))
  first | replace HW0 := Lib.hid (Rws.only HW0.out hb (by omega) (by omega)) | replace HW0 := Lib.hid (Rws.below HW0.out hb (by omega))
  first | replace HW0T := Lib.hid (TabH.only HW0T.out hb (by omega) (by omega)) | replace HW0T := Lib.hid (TabH.below HW0T.out hb (by omega))
  replace HM := Lib.hid (MarkH.below HM.out hb (by omega))
  first | replace HX4 := Lib.hid (Rws.only HX4.out hb (by omega) (by omega)) | replace HX4 := Lib.hid (Rws.below HX4.out hb (by omega))
  clear hb
  have HH0 := Lib.hid hR; have HH0T := Lib.hid hT; clear hR hT H5
  have HH0S := Lib.hid (short_rows hum HSH.out)
  have HH0M := Lib.hid hum
  have hrl13 : rs13.length ≤ 32 := by rw [rows_len hum]; exact HLN.out
  clear hum
  go_wp2_with fail
  refine (eqIntSS_eq A13 A3 c13 c3 _ _ _ _ rs13 rs3 w13 HH0.out HW0.out (by rw [HH0M.out, HW0M.out]) (by omega) (fun t ht => by have := HH0S.out t ht; omega)).mono ?_; rintro e w14 ⟨rfl, hd⟩
  have hb := drawn_below hd; clear hd
  have hs14 := hb.size
  first | replace HC := Lib.hid (RwsR.below HC.out hb (by omega)) | replace HC := Lib.hid (RwsR.below HC.out (Only.below hb (by omega) (by omega)) (by omega))
  first | replace HB := Lib.hid (Below.trans HB.out (Below.mono hb (by omega))) | replace HB := Lib.hid (Below.trans HB.out (Only.below hb (by omega) (by omega)))
  first | replace HW0 := Lib.hid (Rws.only HW0.out hb (by omega) (by omega)) | replace HW0 := Lib.hid (Rws.below HW0.out hb (by omega))
  first | replace HW0T := Lib.hid (TabH.only HW0T.out hb (by omega) (by omega)) | replace HW0T := Lib.hid (TabH.below HW0T.out hb (by omega))
  replace HM := Lib.hid (MarkH.below HM.out hb (by omega))
  first | replace HX4 := Lib.hid (Rws.only HX4.out hb (by omega) (by omega)) | replace HX4 := Lib.hid (Rws.below HX4.out hb (by omega))
  first | replace HH0 := Lib.hid (Rws.only HH0.out hb (by omega) (by omega)) | replace HH0 := Lib.hid (Rws.below HH0.out hb (by omega))
  first | replace HH0T := Lib.hid (TabH.only HH0T.out hb (by omega) (by omega)) | replace HH0T := Lib.hid (TabH.below HH0T.out hb (by omega))
  clear hb
  go_wp2_with fail
  refine (H7.out _ HM.out).mono ?_; rintro e w' ⟨rfl, rfl⟩
  go_wp2_with fail
  go_ret
  exact ⟨by simp, HB.out⟩
end Go.Proofs.Ytpjipofkpikipaa
