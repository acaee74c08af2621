/- The walk of one exact statement: by the contracts of what it calls it returns true and changes nothing that was there. No condition. -/
import Derived.Test.YtpjipofkpikipaaIm
namespace Go.Proofs.Ytpjipofkpikipaa
open Go.RowKit
set_option maxHeartbeats 4000000 in
theorem FnExactIndexPut_walk (B : Option Addr) (d : Nat) (ts : List RowV) (at_ : Int) (A : Option Addr) (c : Nat) (ya : List Int) (w : World) (hB : RwsR w w.heap.size B ts) (_hat : (Lit.int .i64 at_).wf = true) (hA : IntsR w w.heap.size A ya) (hmb : ts.length ≤ maxLen ∧ ∀ t, t ∈ ts → t.xs.length ≤ maxLen) (hma : ya.length ≤ maxLen) :
    Calls Try.prog 12 #[.slice B ts.length d, .int .i64 at_, .slice A ya.length c] w fun e w' => e = .returned (.bool true) ∧ Below w.heap.size w w' := by
  have HC := Lib.hid hB; clear hB
  have HML := Lib.hid (fun t ht => hmb.2 t ht : ∀ t, t ∈ ts → t.xs.length ≤ maxLen)
  have hml := hmb.1
  clear hmb
  have HA := Lib.hid hA; clear hA
  have hma' : ya.length ≤ 9223372036854775807 := by simpa [maxLen] using hma
  clear hma
  by_cases hla : 1048576 < ya.length
  · have hla' : (1048576 : Int) < ya.length := by omega
    go_enter Try.func12, Try.ntmps12
    go_wp2_with fail
    go_ret
    exact ⟨by simp, Below.refl _ _⟩
  have hla' : ¬ ((1048576 : Int) < ya.length) := by omega
  have HB := Lib.hid (Below.refl w.heap.size w)
  go_enter Try.func12, Try.ntmps12
  go_wp2_with fail
  refine (szIntSS_any B d _ ts 1048576 w HC.out (by omega) hml HML.out (Nat.le_refl _)).mono ?_; rintro e w1 ⟨u, rfl, hu, hb⟩
  have hs1 := hb.size
  first | replace HA := Lib.hid (IntsR.below HA.out hb (by omega)) | replace HA := Lib.hid (IntsR.below HA.out (Only.below hb (by omega) (by omega)) (by omega))
  first | replace HC := Lib.hid (RwsR.below HC.out hb (by omega)) | replace HC := Lib.hid (RwsR.below HC.out (Only.below hb (by omega) (by omega)) (by omega))
  first | replace HB := Lib.hid (Below.trans HB.out (Below.mono hb (by omega))) | replace HB := Lib.hid (Below.trans HB.out (Only.below hb (by omega) (by omega)))
  clear hb
  by_cases hu0 : u < 0
  · go_wp2_with fail
    go_ret
    exact ⟨by simp, HB.out⟩
  have hle := (hu (by omega)).1
  have HLE := Lib.hid (hu (by omega)).2
  clear hu hml HML
  obtain ⟨⟨v, vb⟩, hv⟩ : ∃ v, putR (ts.map RowV.xs) at_ ya = v := ⟨_, rfl⟩
  have HVv := Lib.hid hv
  have HSH : Hid (∀ r, r ∈ v → r.length ≤ 3) := Lib.hid (by have h := putR_short (t := ts.map RowV.xs) (i := at_) (room := ya); rw [hv] at h; exact h)
  have HLN : Hid (v.length ≤ 32) := Lib.hid (by have h := putR_len (ts.map RowV.xs) at_ ya; rw [hv] at h; exact h)
  clear hv
  go_wp2_with fail
  refine (toIntSST_any B d _ ts w1 HC.out (by omega) HLE.out (by omega)).mono ?_; rintro e w2 ⟨T2, Z2, us2, hum, hul, rfl, hR, hT, ⟨ht2, hh2, hk2⟩, hb⟩
  have hs2 := hb.size
  first | replace HA := Lib.hid (IntsR.below HA.out hb (by omega)) | replace HA := Lib.hid (IntsR.below HA.out (Only.below hb (by omega) (by omega)) (by omega))
  first | replace HC := Lib.hid (RwsR.below HC.out hb (by omega)) | replace HC := Lib.hid (RwsR.below HC.out (Only.below hb (by omega) (by omega)) (by omega))
  first | replace HB := Lib.hid (Below.trans HB.out (Below.mono hb (by omega))) | replace HB := Lib.hid (Below.trans HB.out (Only.below hb (by omega) (by omega)))
  clear hb
  have HX1 := Lib.hid hR; have HX1L := Lib.hid hul; have HX1M := Lib.hid hum; clear hul hum hR; clear hT
  go_wp2_with fail
  refine (toIntS_any A c _ ya w2 HA.out (by omega) (by omega)).mono ?_; rintro e w3 ⟨A3, c3, rfl, hI, hb⟩
  have hs3 := hb.size
  first | replace HA := Lib.hid (IntsR.below HA.out hb (by omega)) | replace HA := Lib.hid (IntsR.below HA.out (Only.below hb (by omega) (by omega)) (by omega))
  first | replace HC := Lib.hid (RwsR.below HC.out hb (by omega)) | replace HC := Lib.hid (RwsR.below HC.out (Only.below hb (by omega) (by omega)) (by omega))
  first | replace HB := Lib.hid (Below.trans HB.out (Below.mono hb (by omega))) | replace HB := Lib.hid (Below.trans HB.out (Only.below hb (by omega) (by omega)))
  first | replace HX1 := Lib.hid (Rws.only HX1.out hb (by omega) (by omega)) | replace HX1 := Lib.hid (Rws.below HX1.out hb (by omega))
  clear hb
  have HY1 := Lib.hid hI; clear hI
  go_wp2_with fail
  have h5 := indexPutS_any (some ⟨T2, 0, none⟩) ts.length _ _ us2 at_ A3 c3 _ _ ya w3 HX1.out (by rw [HX1L.out]; omega) (same_xs (Q := fun x => x.length ≤ 1048576) HX1M.out HLE.out) (by omega) HY1.out (by omega) (by omega)
  rw [HX1L.out, HX1M.out, HVv.out] at h5
  have H5 := Lib.hid h5; clear h5
  refine (H5.out).mono ?_; rintro e w4 h
  obtain ⟨A4, c4, T4, Z4, rs4, hum, rfl, hR, hT, ⟨ht4, hh4, hk4⟩, hb⟩ := h.tab
  clear h
  have hs4 := hb.size
  first | replace HA := Lib.hid (IntsR.below HA.out hb (by omega)) | replace HA := Lib.hid (IntsR.below HA.out (Only.below hb (by omega) (by omega)) (by omega))
  first | replace HC := Lib.hid (RwsR.below HC.out hb (by omega)) | replace HC := Lib.hid (RwsR.below HC.out (Only.below hb (by omega) (by omega)) (by omega))
  first | replace HB := Lib.hid (Below.trans HB.out (Below.mono hb (by omega))) | replace HB := Lib.hid (Below.trans HB.out (Only.below hb (by omega) (by omega)))
  first | replace HX1 := Lib.hid (Rws.only HX1.out hb (by omega) (by omega)) | replace HX1 := Lib.hid (Rws.below HX1.out hb (by omega))
  first | replace HY1 := Lib.hid (Ints.only HY1.out hb (by omega) (by omega)) | replace HY1 := Lib.hid (Ints.below HY1.out hb (by omega))
  clear hb
  have HW0 := Lib.hid hR; have HW0T := Lib.hid hT; clear hR hT H5
  have HW0S := Lib.hid (short_rows hum HSH.out)
  have HW0M := Lib.hid hum
  have hrl4 : rs4.length ≤ 32 := by rw [rows_len hum]; exact HLN.out
  clear hum
  clear HX1 HY1
  go_wp2_with fail
  refine (toIntSST_any B d _ ts w4 HC.out (by omega) HLE.out (by omega)).mono ?_; rintro e w5 ⟨T5, Z5, us5, hum, hul, rfl, hR, hT, ⟨ht5, hh5, hk5⟩, hb⟩
  have hs5 := hb.size
  first | replace HA := Lib.hid (IntsR.below HA.out hb (by omega)) | replace HA := Lib.hid (IntsR.below HA.out (Only.below hb (by omega) (by omega)) (by omega))
  first | replace HC := Lib.hid (RwsR.below HC.out hb (by omega)) | replace HC := Lib.hid (RwsR.below HC.out (Only.below hb (by omega) (by omega)) (by omega))
  first | replace HB := Lib.hid (Below.trans HB.out (Below.mono hb (by omega))) | replace HB := Lib.hid (Below.trans HB.out (Only.below hb (by omega) (by omega)))
  first | replace HW0 := Lib.hid (Rws.only HW0.out hb (by omega) (by omega)) | replace HW0 := Lib.hid (Rws.below HW0.out hb (by omega))
  first | replace HW0T := Lib.hid (TabH.only HW0T.out hb (by omega) (by omega)) | replace HW0T := Lib.hid (TabH.below HW0T.out hb (by omega))
  clear hb
  have HX2 := Lib.hid hR; have HX2L := Lib.hid hul; have HX2M := Lib.hid hum; clear hul hum hR
  have HX2T := Lib.hid hT; clear hT
  go_wp2_with fail
  refine (toIntS_any A c _ ya w5 HA.out (by omega) (by omega)).mono ?_; rintro e w6 ⟨A6, c6, rfl, hI, hb⟩
  have hs6 := hb.size
  first | replace HA := Lib.hid (IntsR.below HA.out hb (by omega)) | replace HA := Lib.hid (IntsR.below HA.out (Only.below hb (by omega) (by omega)) (by omega))
  first | replace HC := Lib.hid (RwsR.below HC.out hb (by omega)) | replace HC := Lib.hid (RwsR.below HC.out (Only.below hb (by omega) (by omega)) (by omega))
  first | replace HB := Lib.hid (Below.trans HB.out (Below.mono hb (by omega))) | replace HB := Lib.hid (Below.trans HB.out (Only.below hb (by omega) (by omega)))
  first | replace HW0 := Lib.hid (Rws.only HW0.out hb (by omega) (by omega)) | replace HW0 := Lib.hid (Rws.below HW0.out hb (by omega))
  first | replace HW0T := Lib.hid (TabH.only HW0T.out hb (by omega) (by omega)) | replace HW0T := Lib.hid (TabH.below HW0T.out hb (by omega))
  first | replace HX2 := Lib.hid (Rws.only HX2.out hb (by omega) (by omega)) | replace HX2 := Lib.hid (Rws.below HX2.out hb (by omega))
  first | replace HX2T := Lib.hid (TabH.only HX2T.out hb (by omega) (by omega)) | replace HX2T := Lib.hid (TabH.below HX2T.out hb (by omega))
  clear hb
  have HY2 := Lib.hid hI; clear hI
  go_wp2_with fail
  have h5 := indexPut_any (some ⟨T5, 0, none⟩) ts.length _ _ us5 at_ A6 c6 _ _ ya w6 HX2.out (by rw [HX2L.out]; omega) (same_xs (Q := fun x => x.length ≤ 1048576) HX2M.out HLE.out) (by omega) HY2.out (by omega) (by omega)
  rw [HX2L.out, HX2M.out, HVv.out] at h5
  have H5 := Lib.hid h5; clear h5
  refine (H5.out).mono ?_; rintro e w7 h
  obtain ⟨A7, c7, T7, Z7, rs7, hum, rfl, hR, hT, ⟨ht7, hh7, hk7⟩, hb⟩ := h.tab
  clear h
  have hs7 := hb.size
  first | replace HA := Lib.hid (IntsR.below HA.out hb (by omega)) | replace HA := Lib.hid (IntsR.below HA.out (Only.below hb (by omega) (by omega)) (by omega))
  first | replace HC := Lib.hid (RwsR.below HC.out hb (by omega)) | replace HC := Lib.hid (RwsR.below HC.out (Only.below hb (by omega) (by omega)) (by omega))
  first | replace HB := Lib.hid (Below.trans HB.out (Below.mono hb (by omega))) | replace HB := Lib.hid (Below.trans HB.out (Only.below hb (by omega) (by omega)))
  first | replace HW0 := Lib.hid (Rws.only HW0.out hb (by omega) (by omega)) | replace HW0 := Lib.hid (Rws.below HW0.out hb (by omega))
  first | replace HW0T := Lib.hid (TabH.only HW0T.out hb (by omega) (by omega)) | replace HW0T := Lib.hid (TabH.below HW0T.out hb (by omega))
  first | replace HX2 := Lib.hid (Rws.only HX2.out hb (by omega) (by omega)) | replace HX2 := Lib.hid (Rws.below HX2.out hb (by omega))
  first | replace HX2T := Lib.hid (TabH.only HX2T.out hb (by omega) (by omega)) | replace HX2T := Lib.hid (TabH.below HX2T.out hb (by omega))
  first | replace HY2 := Lib.hid (Ints.only HY2.out hb (by omega) (by omega)) | replace HY2 := Lib.hid (Ints.below HY2.out hb (by omega))
  clear hb
  have HG0 := Lib.hid hR; have HG0T := Lib.hid hT; clear hR hT H5
  have HG0S := Lib.hid (short_rows hum HSH.out)
  have HG0M := Lib.hid hum
  have hrl7 : rs7.length ≤ 32 := by rw [rows_len hum]; exact HLN.out
  clear hum
  go_wp2_with fail
  refine (eqIntSS_eq A7 A4 c7 c4 _ _ _ _ rs7 rs4 w7 HG0.out HW0.out (by rw [HG0M.out, HW0M.out]) (by omega) (fun t ht => by have := HG0S.out t ht; omega)).mono ?_; rintro e w8 ⟨rfl, hd⟩
  have hb := drawn_below hd; clear hd
  have hs8 := hb.size
  first | replace HA := Lib.hid (IntsR.below HA.out hb (by omega)) | replace HA := Lib.hid (IntsR.below HA.out (Only.below hb (by omega) (by omega)) (by omega))
  first | replace HC := Lib.hid (RwsR.below HC.out hb (by omega)) | replace HC := Lib.hid (RwsR.below HC.out (Only.below hb (by omega) (by omega)) (by omega))
  first | replace HB := Lib.hid (Below.trans HB.out (Below.mono hb (by omega))) | replace HB := Lib.hid (Below.trans HB.out (Only.below hb (by omega) (by omega)))
  first | replace HW0 := Lib.hid (Rws.only HW0.out hb (by omega) (by omega)) | replace HW0 := Lib.hid (Rws.below HW0.out hb (by omega))
  first | replace HW0T := Lib.hid (TabH.only HW0T.out hb (by omega) (by omega)) | replace HW0T := Lib.hid (TabH.below HW0T.out hb (by omega))
  first | replace HX2 := Lib.hid (Rws.only HX2.out hb (by omega) (by omega)) | replace HX2 := Lib.hid (Rws.below HX2.out hb (by omega))
  first | replace HX2T := Lib.hid (TabH.only HX2T.out hb (by omega) (by omega)) | replace HX2T := Lib.hid (TabH.below HX2T.out hb (by omega))
  first | replace HY2 := Lib.hid (Ints.only HY2.out hb (by omega) (by omega)) | replace HY2 := Lib.hid (Ints.below HY2.out hb (by omega))
  first | replace HG0 := Lib.hid (Rws.only HG0.out hb (by omega) (by omega)) | replace HG0 := Lib.hid (Rws.below HG0.out hb (by omega))
  first | replace HG0T := Lib.hid (TabH.only HG0T.out hb (by omega) (by omega)) | replace HG0T := Lib.hid (TabH.below HG0T.out hb (by omega))
  clear hb
  go_wp2_with fail
  refine (toIntSST_any B d _ ts w8 HC.out (by omega) HLE.out (by omega)).mono ?_; rintro e w9 ⟨T9, Z9, us9, hum, hul, rfl, hR, hT, ⟨ht9, hh9, hk9⟩, hb⟩
  have hs9 := hb.size
  first | replace HA := Lib.hid (IntsR.below HA.out hb (by omega)) | replace HA := Lib.hid (IntsR.below HA.out (Only.below hb (by omega) (by omega)) (by omega))
  first | replace HC := Lib.hid (RwsR.below HC.out hb (by omega)) | replace HC := Lib.hid (RwsR.below HC.out (Only.below hb (by omega) (by omega)) (by omega))
  first | replace HB := Lib.hid (Below.trans HB.out (Below.mono hb (by omega))) | replace HB := Lib.hid (Below.trans HB.out (Only.below hb (by omega) (by omega)))
  first | replace HW0 := Lib.hid (Rws.only HW0.out hb (by omega) (by omega)) | replace HW0 := Lib.hid (Rws.below HW0.out hb (by omega))
  first | replace HW0T := Lib.hid (TabH.only HW0T.out hb (by omega) (by omega)) | replace HW0T := Lib.hid (TabH.below HW0T.out hb (by omega))
  first | replace HX2 := Lib.hid (Rws.only HX2.out hb (by omega) (by omega)) | replace HX2 := Lib.hid (Rws.below HX2.out hb (by omega))
  first | replace HX2T := Lib.hid (TabH.only HX2T.out hb (by omega) (by omega)) | replace HX2T := Lib.hid (TabH.below HX2T.out hb (by omega))
  first | replace HY2 := Lib.hid (Ints.only HY2.out hb (by omega) (by omega)) | replace HY2 := Lib.hid (Ints.below HY2.out hb (by omega))
  first | replace HG0 := Lib.hid (Rws.only HG0.out hb (by omega) (by omega)) | replace HG0 := Lib.hid (Rws.below HG0.out hb (by omega))
  first | replace HG0T := Lib.hid (TabH.only HG0T.out hb (by omega) (by omega)) | replace HG0T := Lib.hid (TabH.below HG0T.out hb (by omega))
  clear hb
  have HX3 := Lib.hid hR; have HX3L := Lib.hid hul; have HX3M := Lib.hid hum; clear hul hum hR; clear hT
  go_wp2_with fail
  have h5 := eqIntSS_eq (some ⟨T5, 0, none⟩) (some ⟨T9, 0, none⟩) ts.length ts.length _ _ _ _ us5 us9 w9 HX2.out HX3.out (by rw [HX2M.out, HX3M.out]) (by rw [HX2L.out]; omega) (same_xs (Q := fun x => x.length ≤ 2097152) HX2M.out (fun t ht => by have := HLE.out t ht; omega))
  rw [HX2L.out, HX3L.out] at h5
  have H5 := Lib.hid h5; clear h5
  refine H5.out.mono ?_; rintro e w10 ⟨rfl, hd⟩
  have hb := drawn_below hd; clear hd
  have hs10 := hb.size
  clear H5
  first | replace HA := Lib.hid (IntsR.below HA.out hb (by omega)) | replace HA := Lib.hid (IntsR.below HA.out (Only.below hb (by omega) (by omega)) (by omega))
  first | replace HC := Lib.hid (RwsR.below HC.out hb (by omega)) | replace HC := Lib.hid (RwsR.below HC.out (Only.below hb (by omega) (by omega)) (by omega))
  first | replace HB := Lib.hid (Below.trans HB.out (Below.mono hb (by omega))) | replace HB := Lib.hid (Below.trans HB.out (Only.below hb (by omega) (by omega)))
  first | replace HW0 := Lib.hid (Rws.only HW0.out hb (by omega) (by omega)) | replace HW0 := Lib.hid (Rws.below HW0.out hb (by omega))
  first | replace HW0T := Lib.hid (TabH.only HW0T.out hb (by omega) (by omega)) | replace HW0T := Lib.hid (TabH.below HW0T.out hb (by omega))
  first | replace HX2 := Lib.hid (Rws.only HX2.out hb (by omega) (by omega)) | replace HX2 := Lib.hid (Rws.below HX2.out hb (by omega))
  first | replace HX2T := Lib.hid (TabH.only HX2T.out hb (by omega) (by omega)) | replace HX2T := Lib.hid (TabH.below HX2T.out hb (by omega))
  first | replace HY2 := Lib.hid (Ints.only HY2.out hb (by omega) (by omega)) | replace HY2 := Lib.hid (Ints.below HY2.out hb (by omega))
  first | replace HG0 := Lib.hid (Rws.only HG0.out hb (by omega) (by omega)) | replace HG0 := Lib.hid (Rws.below HG0.out hb (by omega))
  first | replace HG0T := Lib.hid (TabH.only HG0T.out hb (by omega) (by omega)) | replace HG0T := Lib.hid (TabH.below HG0T.out hb (by omega))
  first | replace HX3 := Lib.hid (Rws.only HX3.out hb (by omega) (by omega)) | replace HX3 := Lib.hid (Rws.below HX3.out hb (by omega))
  clear hb
  clear HX3
  go_wp2_with fail
  refine (toIntS_any A c _ ya w10 HA.out (by omega) (by omega)).mono ?_; rintro e w11 ⟨A11, c11, rfl, hI, hb⟩
  have hs11 := hb.size
  first | replace HA := Lib.hid (IntsR.below HA.out hb (by omega)) | replace HA := Lib.hid (IntsR.below HA.out (Only.below hb (by omega) (by omega)) (by omega))
  first | replace HC := Lib.hid (RwsR.below HC.out hb (by omega)) | replace HC := Lib.hid (RwsR.below HC.out (Only.below hb (by omega) (by omega)) (by omega))
  first | replace HB := Lib.hid (Below.trans HB.out (Below.mono hb (by omega))) | replace HB := Lib.hid (Below.trans HB.out (Only.below hb (by omega) (by omega)))
  first | replace HW0 := Lib.hid (Rws.only HW0.out hb (by omega) (by omega)) | replace HW0 := Lib.hid (Rws.below HW0.out hb (by omega))
  first | replace HW0T := Lib.hid (TabH.only HW0T.out hb (by omega) (by omega)) | replace HW0T := Lib.hid (TabH.below HW0T.out hb (by omega))
  first | replace HX2 := Lib.hid (Rws.only HX2.out hb (by omega) (by omega)) | replace HX2 := Lib.hid (Rws.below HX2.out hb (by omega))
  first | replace HX2T := Lib.hid (TabH.only HX2T.out hb (by omega) (by omega)) | replace HX2T := Lib.hid (TabH.below HX2T.out hb (by omega))
  first | replace HY2 := Lib.hid (Ints.only HY2.out hb (by omega) (by omega)) | replace HY2 := Lib.hid (Ints.below HY2.out hb (by omega))
  first | replace HG0 := Lib.hid (Rws.only HG0.out hb (by omega) (by omega)) | replace HG0 := Lib.hid (Rws.below HG0.out hb (by omega))
  first | replace HG0T := Lib.hid (TabH.only HG0T.out hb (by omega) (by omega)) | replace HG0T := Lib.hid (TabH.below HG0T.out hb (by omega))
  clear hb
  have HY3 := Lib.hid hI; clear hI
  go_wp2_with fail
  refine (eqIntS_eq A6 A11 c6 c11 _ _ _ _ ya w11 HY2.out HY3.out (by omega)).mono ?_; rintro e w12 ⟨rfl, hd⟩
  have hb := drawn_below hd; clear hd
  have hs12 := hb.size
  first | replace HA := Lib.hid (IntsR.below HA.out hb (by omega)) | replace HA := Lib.hid (IntsR.below HA.out (Only.below hb (by omega) (by omega)) (by omega))
  first | replace HC := Lib.hid (RwsR.below HC.out hb (by omega)) | replace HC := Lib.hid (RwsR.below HC.out (Only.below hb (by omega) (by omega)) (by omega))
  first | replace HB := Lib.hid (Below.trans HB.out (Below.mono hb (by omega))) | replace HB := Lib.hid (Below.trans HB.out (Only.below hb (by omega) (by omega)))
  first | replace HW0 := Lib.hid (Rws.only HW0.out hb (by omega) (by omega)) | replace HW0 := Lib.hid (Rws.below HW0.out hb (by omega))
  first | replace HW0T := Lib.hid (TabH.only HW0T.out hb (by omega) (by omega)) | replace HW0T := Lib.hid (TabH.below HW0T.out hb (by omega))
  first | replace HX2 := Lib.hid (Rws.only HX2.out hb (by omega) (by omega)) | replace HX2 := Lib.hid (Rws.below HX2.out hb (by omega))
  first | replace HX2T := Lib.hid (TabH.only HX2T.out hb (by omega) (by omega)) | replace HX2T := Lib.hid (TabH.below HX2T.out hb (by omega))
  first | replace HY2 := Lib.hid (Ints.only HY2.out hb (by omega) (by omega)) | replace HY2 := Lib.hid (Ints.below HY2.out hb (by omega))
  first | replace HG0 := Lib.hid (Rws.only HG0.out hb (by omega) (by omega)) | replace HG0 := Lib.hid (Rws.below HG0.out hb (by omega))
  first | replace HG0T := Lib.hid (TabH.only HG0T.out hb (by omega) (by omega)) | replace HG0T := Lib.hid (TabH.below HG0T.out hb (by omega))
  first | replace HY3 := Lib.hid (Ints.only HY3.out hb (by omega) (by omega)) | replace HY3 := Lib.hid (Ints.below HY3.out hb (by omega))
  clear hb
  clear HY3
  go_wp2_with fail
  have h5 := markIntSS_any (some ⟨T5, 0, none⟩) T5 Z5 ts.length us5 1 w12 HX2T.out (by omega) (by rw [HX2L.out]; omega) (same_xs (Q := fun x => x.length ≤ 1048576) HX2M.out HLE.out) (by omega)
  rw [HX2L.out] at h5
  have H5 := Lib.hid h5; clear h5
  clear HX2 HX2T
  have hoff := offR_le (us := us5) (same_xs (Q := fun x => x.length ≤ 1048576) HX2M.out HLE.out) ts.length
  obtain ⟨kk, hkk⟩ : ∃ k : Int, 1 + (offR us5 ts.length : Int) = k := ⟨_, rfl⟩
  have hkb : 0 ≤ kk ∧ kk ≤ 1099511627777 := by omega
  have h6 := H5.out
  rw [hkk] at h6
  replace H5 := Lib.hid h6
  clear hkk hoff h6
  refine H5.out.mono ?_; rintro e w13 ⟨rfl, _, hO, hs⟩
  obtain ⟨hs13, hs13'⟩ := le_le hs; clear hs H5
  first | replace HA := Lib.hid (IntsR.below HA.out hO (by omega)) | replace HA := Lib.hid (IntsR.below HA.out (Only.below hO (by omega) (by omega)) (by omega))
  first | replace HC := Lib.hid (RwsR.below HC.out hO (by omega)) | replace HC := Lib.hid (RwsR.below HC.out (Only.below hO (by omega) (by omega)) (by omega))
  first | replace HB := Lib.hid (Below.trans HB.out (Below.mono hO (by omega))) | replace HB := Lib.hid (Below.trans HB.out (Only.below hO (by omega) (by omega)))
  first | replace HW0 := Lib.hid (Rws.only HW0.out hO (by omega) (by omega)) | replace HW0 := Lib.hid (Rws.below HW0.out hO (by omega))
  first | replace HW0T := Lib.hid (TabH.only HW0T.out hO (by omega) (by omega)) | replace HW0T := Lib.hid (TabH.below HW0T.out hO (by omega))
  first | replace HY2 := Lib.hid (Ints.only HY2.out hO (by omega) (by omega)) | replace HY2 := Lib.hid (Ints.below HY2.out hO (by omega))
  first | replace HG0 := Lib.hid (Rws.only HG0.out hO (by omega) (by omega)) | replace HG0 := Lib.hid (Rws.below HG0.out hO (by omega))
  first | replace HG0T := Lib.hid (TabH.only HG0T.out hO (by omega) (by omega)) | replace HG0T := Lib.hid (TabH.below HG0T.out hO (by omega))
  clear hO
  go_wp2_with fail
  refine (markIntS_any A6 c6 _ _ ya kk w13 HY2.out (by omega) (by omega)).mono ?_; rintro e w14 ⟨rfl, _, hO, hs⟩
  obtain ⟨hs14, hs14'⟩ := le_le hs; clear hs HY2
  first | replace HA := Lib.hid (IntsR.below HA.out hO (by omega)) | replace HA := Lib.hid (IntsR.below HA.out (Only.below hO (by omega) (by omega)) (by omega))
  first | replace HC := Lib.hid (RwsR.below HC.out hO (by omega)) | replace HC := Lib.hid (RwsR.below HC.out (Only.below hO (by omega) (by omega)) (by omega))
  first | replace HB := Lib.hid (Below.trans HB.out (Below.mono hO (by omega))) | replace HB := Lib.hid (Below.trans HB.out (Only.below hO (by omega) (by omega)))
  first | replace HW0 := Lib.hid (Rws.only HW0.out hO (by omega) (by omega)) | replace HW0 := Lib.hid (Rws.below HW0.out hO (by omega))
  first | replace HW0T := Lib.hid (TabH.only HW0T.out hO (by omega) (by omega)) | replace HW0T := Lib.hid (TabH.below HW0T.out hO (by omega))
  first | replace HG0 := Lib.hid (Rws.only HG0.out hO (by omega) (by omega)) | replace HG0 := Lib.hid (Rws.below HG0.out hO (by omega))
  first | replace HG0T := Lib.hid (TabH.only HG0T.out hO (by omega) (by omega)) | replace HG0T := Lib.hid (TabH.below HG0T.out hO (by omega))
  clear hO
  go_wp2_with fail
  refine (eqIntSS_eq A7 A4 c7 c4 _ _ _ _ rs7 rs4 w14 HG0.out HW0.out (by rw [HG0M.out, HW0M.out]) (by omega) (fun t ht => by have := HG0S.out t ht; omega)).mono ?_; rintro e w15 ⟨rfl, hd⟩
  have hb := drawn_below hd; clear hd
  have hs15 := hb.size
  first | replace HA := Lib.hid (IntsR.below HA.out hb (by omega)) | replace HA := Lib.hid (IntsR.below HA.out (Only.below hb (by omega) (by omega)) (by omega))
  first | replace HC := Lib.hid (RwsR.below HC.out hb (by omega)) | replace HC := Lib.hid (RwsR.below HC.out (Only.below hb (by omega) (by omega)) (by omega))
  first | replace HB := Lib.hid (Below.trans HB.out (Below.mono hb (by omega))) | replace HB := Lib.hid (Below.trans HB.out (Only.below hb (by omega) (by omega)))
  first | replace HW0 := Lib.hid (Rws.only HW0.out hb (by omega) (by omega)) | replace HW0 := Lib.hid (Rws.below HW0.out hb (by omega))
  first | replace HW0T := Lib.hid (TabH.only HW0T.out hb (by omega) (by omega)) | replace HW0T := Lib.hid (TabH.below HW0T.out hb (by omega))
  first | replace HG0 := Lib.hid (Rws.only HG0.out hb (by omega) (by omega)) | replace HG0 := Lib.hid (Rws.below HG0.out hb (by omega))
  first | replace HG0T := Lib.hid (TabH.only HG0T.out hb (by omega) (by omega)) | replace HG0T := Lib.hid (TabH.below HG0T.out hb (by omega))
  clear hb
  go_wp2_with fail
  have h5 := markIntSS_any A7 T7 Z7 c7 rs7 1 w15 HG0T.out (by omega) (by omega) (fun t ht => by have := HG0S.out t ht; omega) (by omega)
  have h7 := fun W h => heldIntSS_any A7 T7 Z7 c7 rs7 1 W h (by omega) (fun t ht => by have := HG0S.out t ht; omega) (by omega)
  have hoff := offR_le (us := rs7) (fun t ht => by have := HG0S.out t ht; omega) rs7.length
  obtain ⟨mm, hmm⟩ : ∃ k : Int, 1 + (offR rs7 rs7.length : Int) = k := ⟨_, rfl⟩
  have hmb : 0 ≤ mm ∧ mm ≤ 1099511627777 := by omega
  rw [hmm] at h5 h7
  have H5 := Lib.hid h5
  have H7 := Lib.hid h7
  clear hmm hoff h5 h7
  refine H5.out.mono ?_; rintro e w16 ⟨rfl, hM, hO, hs⟩
  obtain ⟨hs16, hs16'⟩ := le_le hs; clear hs H5 HG0 HG0T
  have HM := Lib.hid hM; clear hM
  first | replace HA := Lib.hid (IntsR.below HA.out hO (by omega)) | replace HA := Lib.hid (IntsR.below HA.out (Only.below hO (by omega) (by omega)) (by omega))
  first | replace HC := Lib.hid (RwsR.below HC.out hO (by omega)) | replace HC := Lib.hid (RwsR.below HC.out (Only.below hO (by omega) (by omega)) (by omega))
  first | replace HB := Lib.hid (Below.trans HB.out (Below.mono hO (by omega))) | replace HB := Lib.hid (Below.trans HB.out (Only.below hO (by omega) (by omega)))
  first | replace HW0 := Lib.hid (Rws.only HW0.out hO (by omega) (by omega)) | replace HW0 := Lib.hid (Rws.below HW0.out hO (by omega))
  first | replace HW0T := Lib.hid (TabH.only HW0T.out hO (by omega) (by omega)) | replace HW0T := Lib.hid (TabH.below HW0T.out hO (by omega))
  clear hO
  go_wp2_with fail
  refine (H7.out _ HM.out).mono ?_; rintro e w' ⟨rfl, rfl⟩
  go_wp2_with fail
  refine (toIntSST_any B d _ ts w16 HC.out (by omega) HLE.out (by omega)).mono ?_; rintro e w17 ⟨T17, Z17, us17, hum, hul, rfl, hR, hT, ⟨ht17, hh17, hk17⟩, hb⟩
  have hs17 := hb.size
  first | replace HA := Lib.hid (IntsR.below HA.out hb (by omega)) | replace HA := Lib.hid (IntsR.below HA.out (Only.below hb (by omega) (by omega)) (by omega))
  first | replace HC := Lib.hid (RwsR.below HC.out hb (by omega)) | replace HC := Lib.hid (RwsR.below HC.out (Only.below hb (by omega) (by omega)) (by omega))
  first | replace HB := Lib.hid (Below.trans HB.out (Below.mono hb (by omega))) | replace HB := Lib.hid (Below.trans HB.out (Only.below hb (by omega) (by omega)))
  first | replace HW0 := Lib.hid (Rws.only HW0.out hb (by omega) (by omega)) | replace HW0 := Lib.hid (Rws.below HW0.out hb (by omega))
  first | replace HW0T := Lib.hid (TabH.only HW0T.out hb (by omega) (by omega)) | replace HW0T := Lib.hid (TabH.below HW0T.out hb (by omega))
  replace HM := Lib.hid (MarkH.below HM.out hb (by omega))
  clear hb
  have HX4 := Lib.hid hR; have HX4L := Lib.hid hul; have HX4M := Lib.hid hum; clear hul hum hR; clear hT
  go_wp2_with fail
  refine (toIntS_any A c _ ya w17 HA.out (by omega) (by omega)).mono ?_; rintro e w18 ⟨A18, c18, rfl, hI, hb⟩
  have hs18 := hb.size
  first | replace HA := Lib.hid (IntsR.below HA.out hb (by omega)) | replace HA := Lib.hid (IntsR.below HA.out (Only.below hb (by omega) (by omega)) (by omega))
  first | replace HC := Lib.hid (RwsR.below HC.out hb (by omega)) | replace HC := Lib.hid (RwsR.below HC.out (Only.below hb (by omega) (by omega)) (by omega))
  first | replace HB := Lib.hid (Below.trans HB.out (Below.mono hb (by omega))) | replace HB := Lib.hid (Below.trans HB.out (Only.below hb (by omega) (by omega)))
  first | replace HW0 := Lib.hid (Rws.only HW0.out hb (by omega) (by omega)) | replace HW0 := Lib.hid (Rws.below HW0.out hb (by omega))
  first | replace HW0T := Lib.hid (TabH.only HW0T.out hb (by omega) (by omega)) | replace HW0T := Lib.hid (TabH.below HW0T.out hb (by omega))
  replace HM := Lib.hid (MarkH.below HM.out hb (by omega))
  first | replace HX4 := Lib.hid (Rws.only HX4.out hb (by omega) (by omega)) | replace HX4 := Lib.hid (Rws.below HX4.out hb (by omega))
  clear hb
  have HY4 := Lib.hid hI; clear hI
  go_wp2_with fail
  have h5 := indexPut_any (some ⟨T17, 0, none⟩) ts.length _ _ us17 at_ A18 c18 _ _ ya w18 HX4.out (by rw [HX4L.out]; omega) (same_xs (Q := fun x => x.length ≤ 1048576) HX4M.out HLE.out) (by omega) HY4.out (by omega) (by omega)
  rw [HX4L.out, HX4M.out, HVv.out] at h5
  have H5 := Lib.hid h5; clear h5
  refine (H5.out).mono ?_; rintro e w19 h
  obtain ⟨A19, c19, T19, Z19, rs19, hum, rfl, hR, hT, ⟨ht19, hh19, hk19⟩, hb⟩ := h.tab
  clear h
  have hs19 := hb.size
  first | replace HA := Lib.hid (IntsR.below HA.out hb (by omega)) | replace HA := Lib.hid (IntsR.below HA.out (Only.below hb (by omega) (by omega)) (by omega))
  first | replace HC := Lib.hid (RwsR.below HC.out hb (by omega)) | replace HC := Lib.hid (RwsR.below HC.out (Only.below hb (by omega) (by omega)) (by omega))
  first | replace HB := Lib.hid (Below.trans HB.out (Below.mono hb (by omega))) | replace HB := Lib.hid (Below.trans HB.out (Only.below hb (by omega) (by omega)))
  first | replace HW0 := Lib.hid (Rws.only HW0.out hb (by omega) (by omega)) | replace HW0 := Lib.hid (Rws.below HW0.out hb (by omega))
  first | replace HW0T := Lib.hid (TabH.only HW0T.out hb (by omega) (by omega)) | replace HW0T := Lib.hid (TabH.below HW0T.out hb (by omega))
  replace HM := Lib.hid (MarkH.below HM.out hb (by omega))
  first | replace HX4 := Lib.hid (Rws.only HX4.out hb (by omega) (by omega)) | replace HX4 := Lib.hid (Rws.below HX4.out hb (by omega))
  first | replace HY4 := Lib.hid (Ints.only HY4.out hb (by omega) (by omega)) | replace HY4 := Lib.hid (Ints.below HY4.out hb (by omega))
  clear hb
  have HH0 := Lib.hid hR; have HH0T := Lib.hid hT; clear hR hT H5
  have HH0S := Lib.hid (short_rows hum HSH.out)
  have HH0M := Lib.hid hum
  have hrl19 : rs19.length ≤ 32 := by rw [rows_len hum]; exact HLN.out
  clear hum
  go_wp2_with fail
  refine (eqIntSS_eq A19 A4 c19 c4 _ _ _ _ rs19 rs4 w19 HH0.out HW0.out (by rw [HH0M.out, HW0M.out]) (by omega) (fun t ht => by have := HH0S.out t ht; omega)).mono ?_; rintro e w20 ⟨rfl, hd⟩
  have hb := drawn_below hd; clear hd
  have hs20 := hb.size
  first | replace HA := Lib.hid (IntsR.below HA.out hb (by omega)) | replace HA := Lib.hid (IntsR.below HA.out (Only.below hb (by omega) (by omega)) (by omega))
  first | replace HC := Lib.hid (RwsR.below HC.out hb (by omega)) | replace HC := Lib.hid (RwsR.below HC.out (Only.below hb (by omega) (by omega)) (by omega))
  first | replace HB := Lib.hid (Below.trans HB.out (Below.mono hb (by omega))) | replace HB := Lib.hid (Below.trans HB.out (Only.below hb (by omega) (by omega)))
  first | replace HW0 := Lib.hid (Rws.only HW0.out hb (by omega) (by omega)) | replace HW0 := Lib.hid (Rws.below HW0.out hb (by omega))
  first | replace HW0T := Lib.hid (TabH.only HW0T.out hb (by omega) (by omega)) | replace HW0T := Lib.hid (TabH.below HW0T.out hb (by omega))
  replace HM := Lib.hid (MarkH.below HM.out hb (by omega))
  first | replace HX4 := Lib.hid (Rws.only HX4.out hb (by omega) (by omega)) | replace HX4 := Lib.hid (Rws.below HX4.out hb (by omega))
  first | replace HY4 := Lib.hid (Ints.only HY4.out hb (by omega) (by omega)) | replace HY4 := Lib.hid (Ints.below HY4.out hb (by omega))
  first | replace HH0 := Lib.hid (Rws.only HH0.out hb (by omega) (by omega)) | replace HH0 := Lib.hid (Rws.below HH0.out hb (by omega))
  first | replace HH0T := Lib.hid (TabH.only HH0T.out hb (by omega) (by omega)) | replace HH0T := Lib.hid (TabH.below HH0T.out hb (by omega))
  clear hb
  go_wp2_with fail
  refine (H7.out _ HM.out).mono ?_; rintro e w' ⟨rfl, rfl⟩
  go_wp2_with fail
  go_ret
  exact ⟨by simp, HB.out⟩
end Go.Proofs.Ytpjipofkpikipaa
