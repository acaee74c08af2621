/- The walk of one exact statement: by the contracts of what it calls it returns true and changes nothing that was there. No condition. -/
import Derived.Test.YtpjipofkpikipaaIm
namespace Go.Proofs.Ytpjipofkpikipaa
open Go.RowKit
set_option maxHeartbeats 4000000 in
theorem FnExactIndexFirst_walk (B : Option Addr) (d : Nat) (ts : List RowV) (A : Option Addr) (c : Nat) (ya : List Int) (w : World) (hB : RwsR w w.heap.size B ts) (hA : IntsR w w.heap.size A ya) (hmb : ts.length ≤ maxLen ∧ ∀ t, t ∈ ts → t.xs.length ≤ maxLen) (hma : ya.length ≤ maxLen) :
    Calls Try.prog 8 #[.slice B ts.length d, .slice A ya.length c] w fun e w' => e = .returned (.bool true) ∧ Below w.heap.size w w' := by
  have HC := Lib.hid hB; clear hB
  have HML := Lib.hid (fun t ht => hmb.2 t ht : ∀ t, t ∈ ts → t.xs.length ≤ maxLen)
  have hml := hmb.1
  clear hmb
  have HA := Lib.hid hA; clear hA
  have hma' : ya.length ≤ 9223372036854775807 := by simpa [maxLen] using hma
  clear hma
  by_cases hla : 1048576 < ya.length
  · have hla' : (1048576 : Int) < ya.length := by omega
    go_enter Try.func8, Try.ntmps8
    go_wp2_with fail
    go_ret
    exact ⟨by simp, Below.refl _ _⟩
  have hla' : ¬ ((1048576 : Int) < ya.length) := by omega
  have HB := Lib.hid (Below.refl w.heap.size w)
  go_enter Try.func8, Try.ntmps8
  go_wp2_with fail
  refine (szIntSS_any B d _ ts 1048576 w HC.out (by omega) hml HML.out (Nat.le_refl _)).mono ?_; rintro e w1 ⟨u, rfl, hu, hb⟩
  have hs1 := hb.size
  first | replace HA := Lib.hid (IntsR.below HA.out hb (by omega)) | replace HA := Lib.hid (IntsR.below HA.out (Only.below hb (by omega) (by omega)) (by omega))
  first | replace HC := Lib.hid (RwsR.below HC.out hb (by omega)) | replace HC := Lib.hid (RwsR.below HC.out (Only.below hb (by omega) (by omega)) (by omega))
  first | replace HB := Lib.hid (Below.trans HB.out (Below.mono hb (by omega))) | replace HB := Lib.hid (Below.trans HB.out (Only.below hb (by omega) (by omega)))
  clear hb
  by_cases hu0 : u < 0
  · go_wp2_with fail
    go_ret
    exact ⟨by simp, HB.out⟩
  have hle := (hu (by omega)).1
  have HLE := Lib.hid (hu (by omega)).2
  clear hu hml HML
  obtain ⟨v, hv⟩ : ∃ v, firstI (ts.map RowV.xs) ya = v := ⟨_, rfl⟩
  have HVv := Lib.hid hv; clear hv
  go_wp2_with fail
  refine (toIntSST_any B d _ ts w1 HC.out (by omega) HLE.out (by omega)).mono ?_; rintro e w2 ⟨T2, Z2, us2, hum, hul, rfl, hR, hT, ⟨ht2, hh2, hk2⟩, hb⟩
  have hs2 := hb.size
  first | replace HA := Lib.hid (IntsR.below HA.out hb (by omega)) | replace HA := Lib.hid (IntsR.below HA.out (Only.below hb (by omega) (by omega)) (by omega))
  first | replace HC := Lib.hid (RwsR.below HC.out hb (by omega)) | replace HC := Lib.hid (RwsR.below HC.out (Only.below hb (by omega) (by omega)) (by omega))
  first | replace HB := Lib.hid (Below.trans HB.out (Below.mono hb (by omega))) | replace HB := Lib.hid (Below.trans HB.out (Only.below hb (by omega) (by omega)))
  clear hb
  have HX1 := Lib.hid hR; have HX1L := Lib.hid hul; have HX1M := Lib.hid hum; clear hul hum hR; clear hT
  go_wp2_with fail
  refine (toIntS_any A c _ ya w2 HA.out (by omega) (by omega)).mono ?_; rintro e w3 ⟨A3, c3, rfl, hI, hb⟩
  have hs3 := hb.size
  first | replace HA := Lib.hid (IntsR.below HA.out hb (by omega)) | replace HA := Lib.hid (IntsR.below HA.out (Only.below hb (by omega) (by omega)) (by omega))
  first | replace HC := Lib.hid (RwsR.below HC.out hb (by omega)) | replace HC := Lib.hid (RwsR.below HC.out (Only.below hb (by omega) (by omega)) (by omega))
  first | replace HB := Lib.hid (Below.trans HB.out (Below.mono hb (by omega))) | replace HB := Lib.hid (Below.trans HB.out (Only.below hb (by omega) (by omega)))
  first | replace HX1 := Lib.hid (Rws.only HX1.out hb (by omega) (by omega)) | replace HX1 := Lib.hid (Rws.below HX1.out hb (by omega))
  clear hb
  have HY1 := Lib.hid hI; clear hI
  go_wp2_with fail
  have h5 := indexFirstS_any (some ⟨T2, 0, none⟩) ts.length _ _ us2 A3 c3 _ _ ya w3 HX1.out (by rw [HX1L.out]; omega) (same_xs (Q := fun x => x.length ≤ 1048576) HX1M.out HLE.out) (by omega) HY1.out (by omega) (by omega)
  rw [HX1L.out, HX1M.out, HVv.out] at h5
  have H5 := Lib.hid h5; clear h5
  refine (H5.out).mono ?_; rintro e w4 ⟨rfl, hb⟩
  have hs4 := hb.size
  first | replace HA := Lib.hid (IntsR.below HA.out hb (by omega)) | replace HA := Lib.hid (IntsR.below HA.out (Only.below hb (by omega) (by omega)) (by omega))
  first | replace HC := Lib.hid (RwsR.below HC.out hb (by omega)) | replace HC := Lib.hid (RwsR.below HC.out (Only.below hb (by omega) (by omega)) (by omega))
  first | replace HB := Lib.hid (Below.trans HB.out (Below.mono hb (by omega))) | replace HB := Lib.hid (Below.trans HB.out (Only.below hb (by omega) (by omega)))
  first | replace HX1 := Lib.hid (Rws.only HX1.out hb (by omega) (by omega)) | replace HX1 := Lib.hid (Rws.below HX1.out hb (by omega))
  first | replace HY1 := Lib.hid (Ints.only HY1.out hb (by omega) (by omega)) | replace HY1 := Lib.hid (Ints.below HY1.out hb (by omega))
  clear hb
  clear H5
  clear HX1 HY1
  go_wp2_with fail
  refine (toIntSST_any B d _ ts w4 HC.out (by omega) HLE.out (by omega)).mono ?_; rintro e w5 ⟨T5, Z5, us5, hum, hul, rfl, hR, hT, ⟨ht5, hh5, hk5⟩, hb⟩
  have hs5 := hb.size
  first | replace HA := Lib.hid (IntsR.below HA.out hb (by omega)) | replace HA := Lib.hid (IntsR.below HA.out (Only.below hb (by omega) (by omega)) (by omega))
  first | replace HC := Lib.hid (RwsR.below HC.out hb (by omega)) | replace HC := Lib.hid (RwsR.below HC.out (Only.below hb (by omega) (by omega)) (by omega))
  first | replace HB := Lib.hid (Below.trans HB.out (Below.mono hb (by omega))) | replace HB := Lib.hid (Below.trans HB.out (Only.below hb (by omega) (by omega)))
  clear hb
  have HX2 := Lib.hid hR; have HX2L := Lib.hid hul; have HX2M := Lib.hid hum; clear hul hum hR; clear hT
  go_wp2_with fail
  refine (toIntS_any A c _ ya w5 HA.out (by omega) (by omega)).mono ?_; rintro e w6 ⟨A6, c6, rfl, hI, hb⟩
  have hs6 := hb.size
  first | replace HA := Lib.hid (IntsR.below HA.out hb (by omega)) | replace HA := Lib.hid (IntsR.below HA.out (Only.below hb (by omega) (by omega)) (by omega))
  first | replace HC := Lib.hid (RwsR.below HC.out hb (by omega)) | replace HC := Lib.hid (RwsR.below HC.out (Only.below hb (by omega) (by omega)) (by omega))
  first | replace HB := Lib.hid (Below.trans HB.out (Below.mono hb (by omega))) | replace HB := Lib.hid (Below.trans HB.out (Only.below hb (by omega) (by omega)))
  first | replace HX2 := Lib.hid (Rws.only HX2.out hb (by omega) (by omega)) | replace HX2 := Lib.hid (Rws.below HX2.out hb (by omega))
  clear hb
  have HY2 := Lib.hid hI; clear hI
  go_wp2_with fail
  have h5 := indexFirst_any (some ⟨T5, 0, none⟩) ts.length _ _ us5 A6 c6 _ _ ya w6 HX2.out (by rw [HX2L.out]; omega) (same_xs (Q := fun x => x.length ≤ 1048576) HX2M.out HLE.out) (by omega) HY2.out (by omega) (by omega)
  rw [HX2L.out, HX2M.out, HVv.out] at h5
  have H5 := Lib.hid h5; clear h5
  refine (H5.out).mono ?_; rintro e w7 ⟨rfl, hb⟩
  have hs7 := hb.size
  first | replace HA := Lib.hid (IntsR.below HA.out hb (by omega)) | replace HA := Lib.hid (IntsR.below HA.out (Only.below hb (by omega) (by omega)) (by omega))
  first | replace HC := Lib.hid (RwsR.below HC.out hb (by omega)) | replace HC := Lib.hid (RwsR.below HC.out (Only.below hb (by omega) (by omega)) (by omega))
  first | replace HB := Lib.hid (Below.trans HB.out (Below.mono hb (by omega))) | replace HB := Lib.hid (Below.trans HB.out (Only.below hb (by omega) (by omega)))
  first | replace HX2 := Lib.hid (Rws.only HX2.out hb (by omega) (by omega)) | replace HX2 := Lib.hid (Rws.below HX2.out hb (by omega))
  first | replace HY2 := Lib.hid (Ints.only HY2.out hb (by omega) (by omega)) | replace HY2 := Lib.hid (Ints.below HY2.out hb (by omega))
  clear hb
  clear H5
  go_wp2_with fail
  refine (toIntSST_any B d _ ts w7 HC.out (by omega) HLE.out (by omega)).mono ?_; rintro e w8 ⟨T8, Z8, us8, hum, hul, rfl, hR, hT, ⟨ht8, hh8, hk8⟩, hb⟩
  have hs8 := hb.size
  first | replace HA := Lib.hid (IntsR.below HA.out hb (by omega)) | replace HA := Lib.hid (IntsR.below HA.out (Only.below hb (by omega) (by omega)) (by omega))
  first | replace HC := Lib.hid (RwsR.below HC.out hb (by omega)) | replace HC := Lib.hid (RwsR.below HC.out (Only.below hb (by omega) (by omega)) (by omega))
  first | replace HB := Lib.hid (Below.trans HB.out (Below.mono hb (by omega))) | replace HB := Lib.hid (Below.trans HB.out (Only.below hb (by omega) (by omega)))
  first | replace HX2 := Lib.hid (Rws.only HX2.out hb (by omega) (by omega)) | replace HX2 := Lib.hid (Rws.below HX2.out hb (by omega))
  first | replace HY2 := Lib.hid (Ints.only HY2.out hb (by omega) (by omega)) | replace HY2 := Lib.hid (Ints.below HY2.out hb (by omega))
  clear hb
  have HX3 := Lib.hid hR; have HX3L := Lib.hid hul; have HX3M := Lib.hid hum; clear hul hum hR; clear hT
  go_wp2_with fail
  have h5 := eqIntSS_eq (some ⟨T5, 0, none⟩) (some ⟨T8, 0, none⟩) ts.length ts.length _ _ _ _ us5 us8 w8 HX2.out HX3.out (by rw [HX2M.out, HX3M.out]) (by rw [HX2L.out]; omega) (same_xs (Q := fun x => x.length ≤ 2097152) HX2M.out (fun t ht => by have := HLE.out t ht; omega))
  rw [HX2L.out, HX3L.out] at h5
  have H5 := Lib.hid h5; clear h5
  refine H5.out.mono ?_; rintro e w9 ⟨rfl, hd⟩
  have hb := drawn_below hd; clear hd
  have hs9 := hb.size
  clear H5
  first | replace HA := Lib.hid (IntsR.below HA.out hb (by omega)) | replace HA := Lib.hid (IntsR.below HA.out (Only.below hb (by omega) (by omega)) (by omega))
  first | replace HC := Lib.hid (RwsR.below HC.out hb (by omega)) | replace HC := Lib.hid (RwsR.below HC.out (Only.below hb (by omega) (by omega)) (by omega))
  first | replace HB := Lib.hid (Below.trans HB.out (Below.mono hb (by omega))) | replace HB := Lib.hid (Below.trans HB.out (Only.below hb (by omega) (by omega)))
  first | replace HX2 := Lib.hid (Rws.only HX2.out hb (by omega) (by omega)) | replace HX2 := Lib.hid (Rws.below HX2.out hb (by omega))
  first | replace HY2 := Lib.hid (Ints.only HY2.out hb (by omega) (by omega)) | replace HY2 := Lib.hid (Ints.below HY2.out hb (by omega))
  first | replace HX3 := Lib.hid (Rws.only HX3.out hb (by omega) (by omega)) | replace HX3 := Lib.hid (Rws.below HX3.out hb (by omega))
  clear hb
  clear HX3
  go_wp2_with fail
  refine (toIntS_any A c _ ya w9 HA.out (by omega) (by omega)).mono ?_; rintro e w10 ⟨A10, c10, rfl, hI, hb⟩
  have hs10 := hb.size
  first | replace HA := Lib.hid (IntsR.below HA.out hb (by omega)) | replace HA := Lib.hid (IntsR.below HA.out (Only.below hb (by omega) (by omega)) (by omega))
  first | replace HC := Lib.hid (RwsR.below HC.out hb (by omega)) | replace HC := Lib.hid (RwsR.below HC.out (Only.below hb (by omega) (by omega)) (by omega))
  first | replace HB := Lib.hid (Below.trans HB.out (Below.mono hb (by omega))) | replace HB := Lib.hid (Below.trans HB.out (Only.below hb (by omega) (by omega)))
  first | replace HX2 := Lib.hid (Rws.only HX2.out hb (by omega) (by omega)) | replace HX2 := Lib.hid (Rws.below HX2.out hb (by omega))
  first | replace HY2 := Lib.hid (Ints.only HY2.out hb (by omega) (by omega)) | replace HY2 := Lib.hid (Ints.below HY2.out hb (by omega))
  clear hb
  have HY3 := Lib.hid hI; clear hI
  go_wp2_with fail
  refine (eqIntS_eq A6 A10 c6 c10 _ _ _ _ ya w10 HY2.out HY3.out (by omega)).mono ?_; rintro e w11 ⟨rfl, hd⟩
  have hb := drawn_below hd; clear hd
  have hs11 := hb.size
  first | replace HA := Lib.hid (IntsR.below HA.out hb (by omega)) | replace HA := Lib.hid (IntsR.below HA.out (Only.below hb (by omega) (by omega)) (by omega))
  first | replace HC := Lib.hid (RwsR.below HC.out hb (by omega)) | replace HC := Lib.hid (RwsR.below HC.out (Only.below hb (by omega) (by omega)) (by omega))
  first | replace HB := Lib.hid (Below.trans HB.out (Below.mono hb (by omega))) | replace HB := Lib.hid (Below.trans HB.out (Only.below hb (by omega) (by omega)))
  first | replace HX2 := Lib.hid (Rws.only HX2.out hb (by omega) (by omega)) | replace HX2 := Lib.hid (Rws.below HX2.out hb (by omega))
  first | replace HY2 := Lib.hid (Ints.only HY2.out hb (by omega) (by omega)) | replace HY2 := Lib.hid (Ints.below HY2.out hb (by omega))
  first | replace HY3 := Lib.hid (Ints.only HY3.out hb (by omega) (by omega)) | replace HY3 := Lib.hid (Ints.below HY3.out hb (by omega))
  clear hb
  go_wp2_with fail
  go_ret
  exact ⟨by simp, HB.out⟩
end Go.Proofs.Ytpjipofkpikipaa
