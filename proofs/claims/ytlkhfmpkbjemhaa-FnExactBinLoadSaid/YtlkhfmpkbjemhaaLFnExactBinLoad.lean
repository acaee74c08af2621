/- The walk of one exact statement: by the contracts of what it calls it returns true and changes nothing that was there. No condition. -/
import Derived.Test.YtlkhfmpkbjemhaaMk
import Derived.Test.YtlkhfmpkbjemhaaLo
namespace Go.Proofs.Ytlkhfmpkbjemhaa
open Go.RowKit
set_option maxHeartbeats 4000000 in
theorem FnExactBinLoad_walk (A : Option Addr) (c : Nat) (ya : List Int) (B : Option Addr) (d : Nat) (ts : List TaskV) (w : World) (hA : IntsR w w.heap.size A ya) (hB : TasksR w w.heap.size B ts) (hma : ya.length ≤ maxLen) (hmb : ts.length ≤ maxLen ∧ ∀ t, t ∈ ts → t.need.length ≤ maxLen ∧ (Lit.int .i64 t.id).wf = true) :
    Calls Try.prog 11 #[.slice A ya.length c, .slice B ts.length d] w fun e w' => e = .returned (.bool true) ∧ Below w.heap.size w w' := by
  have HA := Lib.hid hA; clear hA
  have HC := Lib.hid hB; clear hB
  have HWF := Lib.hid (fun t ht => (hmb.2 t ht).2 : ∀ t, t ∈ ts → (Lit.int .i64 t.id).wf = true)
  have HML := Lib.hid (fun t ht => (hmb.2 t ht).1 : ∀ t, t ∈ ts → t.need.length ≤ maxLen)
  have hml := hmb.1
  clear hmb
  have hma' : ya.length ≤ 9223372036854775807 := by simpa [maxLen] using hma
  clear hma
  by_cases hla : 1048576 < ya.length
  · have hla' : (1048576 : Int) < ya.length := by omega
    go_enter Try.func11, Try.ntmps11
    go_wp2_with fail
    go_ret
    exact ⟨by simp, Below.refl _ _⟩
  have hla' : ¬ ((1048576 : Int) < ya.length) := by omega
  have HB := Lib.hid (Below.refl w.heap.size w)
  go_enter Try.func11, Try.ntmps11
  go_wp2_with fail
  refine (szTaskS_any B d _ ts 1048576 w HC.out (by omega) hml HML.out (Nat.le_refl _)).mono ?_; rintro e w1 ⟨u, rfl, hu, hb⟩
  have hs1 := hb.size
  first | replace HA := Lib.hid (IntsR.below HA.out hb (by omega)) | replace HA := Lib.hid (IntsR.below HA.out (Only.below hb (by omega) (by omega)) (by omega))
  first | replace HC := Lib.hid (TasksR.below HC.out hb (by omega)) | replace HC := Lib.hid (TasksR.below HC.out (Only.below hb (by omega) (by omega)) (by omega))
  first | replace HB := Lib.hid (Below.trans HB.out (Below.mono hb (by omega))) | replace HB := Lib.hid (Below.trans HB.out (Only.below hb (by omega) (by omega)))
  clear hb
  by_cases hu0 : u < 0
  · go_wp2_with fail
    go_ret
    exact ⟨by simp, HB.out⟩
  have hle := (hu (by omega)).1
  have HLE := Lib.hid (hu (by omega)).2
  clear hu hml HML
  obtain ⟨zs, hzs⟩ : ∃ zs, binLoad ya (ts.map pv) = zs := ⟨_, rfl⟩
  have HZS := Lib.hid hzs
  have hzl : zs.length ≤ 3 := by rw [← hzs, binLoad]; split <;> simp [loadL_len]
  clear hzs
  go_wp2_with fail
  refine (toIntS_any A c _ ya w1 HA.out (by omega) (by omega)).mono ?_; rintro e w2 ⟨A2, c2, rfl, hI, hb⟩
  have hs2 := hb.size
  first | replace HA := Lib.hid (IntsR.below HA.out hb (by omega)) | replace HA := Lib.hid (IntsR.below HA.out (Only.below hb (by omega) (by omega)) (by omega))
  first | replace HC := Lib.hid (TasksR.below HC.out hb (by omega)) | replace HC := Lib.hid (TasksR.below HC.out (Only.below hb (by omega) (by omega)) (by omega))
  first | replace HB := Lib.hid (Below.trans HB.out (Below.mono hb (by omega))) | replace HB := Lib.hid (Below.trans HB.out (Only.below hb (by omega) (by omega)))
  clear hb
  have HX1 := Lib.hid hI; clear hI
  go_wp2_with fail
  refine (toTaskS_any B d _ ts w2 HC.out (by omega) HLE.out (by omega)).mono ?_; rintro e w3 ⟨A3, c3, us3, rfl, hul, hum, hT, hb⟩
  have hs3 := hb.size
  first | replace HA := Lib.hid (IntsR.below HA.out hb (by omega)) | replace HA := Lib.hid (IntsR.below HA.out (Only.below hb (by omega) (by omega)) (by omega))
  first | replace HC := Lib.hid (TasksR.below HC.out hb (by omega)) | replace HC := Lib.hid (TasksR.below HC.out (Only.below hb (by omega) (by omega)) (by omega))
  first | replace HB := Lib.hid (Below.trans HB.out (Below.mono hb (by omega))) | replace HB := Lib.hid (Below.trans HB.out (Only.below hb (by omega) (by omega)))
  first | replace HX1 := Lib.hid (Ints.only HX1.out hb (by omega) (by omega)) | replace HX1 := Lib.hid (Ints.below HX1.out hb (by omega))
  clear hb
  have HU1 := Lib.hid hT; have HU1L := Lib.hid hul; have HU1M := Lib.hid hum; clear hT hul hum
  go_wp2_with fail
  have h5 := binLoadS_any A2 c2 _ _ ya A3 c3 _ _ us3 w3 HX1.out (by omega) HU1.out (by rw [HU1L.out]; omega) (same_needs (Q := fun _ n => n.length ≤ 1048576) HU1M.out HLE.out) (by omega) (by omega)
  rw [HU1L.out, HU1M.out, HZS.out] at h5
  have H5 := Lib.hid h5; clear h5
  refine (H5.out).mono ?_; rintro e w4 ⟨A4, c4, rfl, hI, hb⟩
  have hs4 := hb.size
  first | replace HA := Lib.hid (IntsR.below HA.out hb (by omega)) | replace HA := Lib.hid (IntsR.below HA.out (Only.below hb (by omega) (by omega)) (by omega))
  first | replace HC := Lib.hid (TasksR.below HC.out hb (by omega)) | replace HC := Lib.hid (TasksR.below HC.out (Only.below hb (by omega) (by omega)) (by omega))
  first | replace HB := Lib.hid (Below.trans HB.out (Below.mono hb (by omega))) | replace HB := Lib.hid (Below.trans HB.out (Only.below hb (by omega) (by omega)))
  first | replace HX1 := Lib.hid (Ints.only HX1.out hb (by omega) (by omega)) | replace HX1 := Lib.hid (Ints.below HX1.out hb (by omega))
  first | replace HU1 := Lib.hid (Tasks.only HU1.out hb (by omega) (by omega)) | replace HU1 := Lib.hid (Tasks.below HU1.out hb (by omega))
  clear hb
  have HW0 := Lib.hid hI; clear hI H5
  clear HX1 HU1
  go_wp2_with fail
  refine (toIntS_any A c _ ya w4 HA.out (by omega) (by omega)).mono ?_; rintro e w5 ⟨A5, c5, rfl, hI, hb⟩
  have hs5 := hb.size
  first | replace HA := Lib.hid (IntsR.below HA.out hb (by omega)) | replace HA := Lib.hid (IntsR.below HA.out (Only.below hb (by omega) (by omega)) (by omega))
  first | replace HC := Lib.hid (TasksR.below HC.out hb (by omega)) | replace HC := Lib.hid (TasksR.below HC.out (Only.below hb (by omega) (by omega)) (by omega))
  first | replace HB := Lib.hid (Below.trans HB.out (Below.mono hb (by omega))) | replace HB := Lib.hid (Below.trans HB.out (Only.below hb (by omega) (by omega)))
  first | replace HW0 := Lib.hid (Ints.only HW0.out hb (by omega) (by omega)) | replace HW0 := Lib.hid (Ints.below HW0.out hb (by omega))
  clear hb
  have HX2 := Lib.hid hI; clear hI
  go_wp2_with fail
  refine (toTaskO_any B d _ ts w5 HC.out (by omega) HLE.out (by omega)).mono ?_; rintro e w6 ⟨us2, rfl, hul, hum, hown, hnd, hsep, hb, hgs⟩
  have hs6 := hb.size
  first | replace HA := Lib.hid (IntsR.below HA.out hb (by omega)) | replace HA := Lib.hid (IntsR.below HA.out (Only.below hb (by omega) (by omega)) (by omega))
  first | replace HC := Lib.hid (TasksR.below HC.out hb (by omega)) | replace HC := Lib.hid (TasksR.below HC.out (Only.below hb (by omega) (by omega)) (by omega))
  first | replace HB := Lib.hid (Below.trans HB.out (Below.mono hb (by omega))) | replace HB := Lib.hid (Below.trans HB.out (Only.below hb (by omega) (by omega)))
  first | replace HW0 := Lib.hid (Ints.only HW0.out hb (by omega) (by omega)) | replace HW0 := Lib.hid (Ints.below HW0.out hb (by omega))
  first | replace HX2 := Lib.hid (Ints.only HX2.out hb (by omega) (by omega)) | replace HX2 := Lib.hid (Ints.below HX2.out hb (by omega))
  clear hb
  have HU2L := Lib.hid hul; have HU2M := Lib.hid hum; have HOW := Lib.hid hown; have HND := Lib.hid hnd; have HSP := Lib.hid hsep; clear hul hum hown hnd hsep
  obtain ⟨g, hg⟩ : ∃ g, w5.heap.size = g := ⟨_, rfl⟩
  obtain ⟨hg1, hg2⟩ := le_le hg
  rw [hg] at HOW HND hgs ⊢
  obtain ⟨hi2, hhi⟩ : ∃ h, w6.heap.size = h := ⟨_, rfl⟩
  obtain ⟨hh1, hh2⟩ := le_le hhi
  rw [hhi] at HND
  clear hg hhi
  have HU2 : Hid (Tasks w6 g hi2 (some ⟨g, 0, none⟩) ts.length us2) := Lib.hid (by
    have hown := HOW.out
    rw [← HU2L.out] at hown
    obtain ⟨A9, c9, he9, hT9⟩ := Tasks.of_own hown (fun u hu => ((HND.out u hu).mono (by omega) (by omega)))
    simp only [Value.slice.injEq] at he9
    obtain ⟨rfl, -, h9⟩ := he9
    rw [HU2L.out] at h9
    have h10 : c9 = ts.length := by omega
    rw [h10] at hT9
    exact hT9.mono (Nat.le_refl _) (by omega))
  go_wp2_with fail
  have h5 := binLoad_any A5 c5 _ _ ya (some ⟨g, 0, none⟩) ts.length _ _ us2 w6 HX2.out (by omega) HU2.out (by rw [HU2L.out]; omega) (same_needs (Q := fun _ n => n.length ≤ 1048576) HU2M.out HLE.out) (same_needs (Q := fun i _ => (Lit.int .i64 i).wf = true) HU2M.out HWF.out) (by omega) (by omega)
  rw [HU2L.out, HU2M.out, HZS.out] at h5
  have H5 := Lib.hid h5; clear h5
  refine (H5.out).mono ?_; rintro e w7 ⟨A7, c7, rfl, hI, hb⟩
  have hs7 := hb.size
  replace HND := Lib.hid (fun u hu => (HND.out u hu).below hb (by omega))
  first | replace HA := Lib.hid (IntsR.below HA.out hb (by omega)) | replace HA := Lib.hid (IntsR.below HA.out (Only.below hb (by omega) (by omega)) (by omega))
  first | replace HC := Lib.hid (TasksR.below HC.out hb (by omega)) | replace HC := Lib.hid (TasksR.below HC.out (Only.below hb (by omega) (by omega)) (by omega))
  first | replace HB := Lib.hid (Below.trans HB.out (Below.mono hb (by omega))) | replace HB := Lib.hid (Below.trans HB.out (Only.below hb (by omega) (by omega)))
  first | replace HW0 := Lib.hid (Ints.only HW0.out hb (by omega) (by omega)) | replace HW0 := Lib.hid (Ints.below HW0.out hb (by omega))
  first | replace HX2 := Lib.hid (Ints.only HX2.out hb (by omega) (by omega)) | replace HX2 := Lib.hid (Ints.below HX2.out hb (by omega))
  first | replace HOW := Lib.hid (ownsRow_only HOW.out hb (by omega)) | replace HOW := Lib.hid (ownsRow_below' HOW.out hb (by omega))
  first | replace HU2 := Lib.hid (Tasks.only HU2.out hb (by omega) (by omega)) | replace HU2 := Lib.hid (Tasks.below HU2.out hb (by omega))
  clear hb
  have HG0 := Lib.hid hI; clear hI H5
  go_wp2_with fail
  refine (eqIntS_eq A7 A4 c7 c4 _ _ _ _ zs w7 HG0.out HW0.out (by omega)).mono ?_; rintro e w8 ⟨rfl, hd⟩
  have hb := drawn_below hd; clear hd
  have hs8 := hb.size
  replace HND := Lib.hid (fun u hu => (HND.out u hu).below hb (by omega))
  first | replace HA := Lib.hid (IntsR.below HA.out hb (by omega)) | replace HA := Lib.hid (IntsR.below HA.out (Only.below hb (by omega) (by omega)) (by omega))
  first | replace HC := Lib.hid (TasksR.below HC.out hb (by omega)) | replace HC := Lib.hid (TasksR.below HC.out (Only.below hb (by omega) (by omega)) (by omega))
  first | replace HB := Lib.hid (Below.trans HB.out (Below.mono hb (by omega))) | replace HB := Lib.hid (Below.trans HB.out (Only.below hb (by omega) (by omega)))
  first | replace HW0 := Lib.hid (Ints.only HW0.out hb (by omega) (by omega)) | replace HW0 := Lib.hid (Ints.below HW0.out hb (by omega))
  first | replace HX2 := Lib.hid (Ints.only HX2.out hb (by omega) (by omega)) | replace HX2 := Lib.hid (Ints.below HX2.out hb (by omega))
  first | replace HOW := Lib.hid (ownsRow_only HOW.out hb (by omega)) | replace HOW := Lib.hid (ownsRow_below' HOW.out hb (by omega))
  first | replace HU2 := Lib.hid (Tasks.only HU2.out hb (by omega) (by omega)) | replace HU2 := Lib.hid (Tasks.below HU2.out hb (by omega))
  first | replace HG0 := Lib.hid (Ints.only HG0.out hb (by omega) (by omega)) | replace HG0 := Lib.hid (Ints.below HG0.out hb (by omega))
  clear hb
  go_wp2_with fail
  refine (toIntS_any A c _ ya w8 HA.out (by omega) (by omega)).mono ?_; rintro e w9 ⟨A9, c9, rfl, hI, hb⟩
  have hs9 := hb.size
  replace HND := Lib.hid (fun u hu => (HND.out u hu).below hb (by omega))
  first | replace HA := Lib.hid (IntsR.below HA.out hb (by omega)) | replace HA := Lib.hid (IntsR.below HA.out (Only.below hb (by omega) (by omega)) (by omega))
  first | replace HC := Lib.hid (TasksR.below HC.out hb (by omega)) | replace HC := Lib.hid (TasksR.below HC.out (Only.below hb (by omega) (by omega)) (by omega))
  first | replace HB := Lib.hid (Below.trans HB.out (Below.mono hb (by omega))) | replace HB := Lib.hid (Below.trans HB.out (Only.below hb (by omega) (by omega)))
  first | replace HW0 := Lib.hid (Ints.only HW0.out hb (by omega) (by omega)) | replace HW0 := Lib.hid (Ints.below HW0.out hb (by omega))
  first | replace HX2 := Lib.hid (Ints.only HX2.out hb (by omega) (by omega)) | replace HX2 := Lib.hid (Ints.below HX2.out hb (by omega))
  first | replace HOW := Lib.hid (ownsRow_only HOW.out hb (by omega)) | replace HOW := Lib.hid (ownsRow_below' HOW.out hb (by omega))
  first | replace HU2 := Lib.hid (Tasks.only HU2.out hb (by omega) (by omega)) | replace HU2 := Lib.hid (Tasks.below HU2.out hb (by omega))
  first | replace HG0 := Lib.hid (Ints.only HG0.out hb (by omega) (by omega)) | replace HG0 := Lib.hid (Ints.below HG0.out hb (by omega))
  clear hb
  have HX3 := Lib.hid hI; clear hI
  go_wp2_with fail
  refine (eqIntS_eq A5 A9 c5 c9 _ _ _ _ ya w9 HX2.out HX3.out (by omega)).mono ?_; rintro e w10 ⟨rfl, hd⟩
  have hb := drawn_below hd; clear hd
  have hs10 := hb.size
  replace HND := Lib.hid (fun u hu => (HND.out u hu).below hb (by omega))
  first | replace HA := Lib.hid (IntsR.below HA.out hb (by omega)) | replace HA := Lib.hid (IntsR.below HA.out (Only.below hb (by omega) (by omega)) (by omega))
  first | replace HC := Lib.hid (TasksR.below HC.out hb (by omega)) | replace HC := Lib.hid (TasksR.below HC.out (Only.below hb (by omega) (by omega)) (by omega))
  first | replace HB := Lib.hid (Below.trans HB.out (Below.mono hb (by omega))) | replace HB := Lib.hid (Below.trans HB.out (Only.below hb (by omega) (by omega)))
  first | replace HW0 := Lib.hid (Ints.only HW0.out hb (by omega) (by omega)) | replace HW0 := Lib.hid (Ints.below HW0.out hb (by omega))
  first | replace HX2 := Lib.hid (Ints.only HX2.out hb (by omega) (by omega)) | replace HX2 := Lib.hid (Ints.below HX2.out hb (by omega))
  first | replace HOW := Lib.hid (ownsRow_only HOW.out hb (by omega)) | replace HOW := Lib.hid (ownsRow_below' HOW.out hb (by omega))
  first | replace HU2 := Lib.hid (Tasks.only HU2.out hb (by omega) (by omega)) | replace HU2 := Lib.hid (Tasks.below HU2.out hb (by omega))
  first | replace HG0 := Lib.hid (Ints.only HG0.out hb (by omega) (by omega)) | replace HG0 := Lib.hid (Ints.below HG0.out hb (by omega))
  first | replace HX3 := Lib.hid (Ints.only HX3.out hb (by omega) (by omega)) | replace HX3 := Lib.hid (Ints.below HX3.out hb (by omega))
  clear hb
  clear HX3
  go_wp2_with fail
  refine (toTaskS_any B d _ ts w10 HC.out (by omega) HLE.out (by omega)).mono ?_; rintro e w11 ⟨A11, c11, us11, rfl, hul, hum, hT, hb⟩
  have hs11 := hb.size
  replace HND := Lib.hid (fun u hu => (HND.out u hu).below hb (by omega))
  first | replace HA := Lib.hid (IntsR.below HA.out hb (by omega)) | replace HA := Lib.hid (IntsR.below HA.out (Only.below hb (by omega) (by omega)) (by omega))
  first | replace HC := Lib.hid (TasksR.below HC.out hb (by omega)) | replace HC := Lib.hid (TasksR.below HC.out (Only.below hb (by omega) (by omega)) (by omega))
  first | replace HB := Lib.hid (Below.trans HB.out (Below.mono hb (by omega))) | replace HB := Lib.hid (Below.trans HB.out (Only.below hb (by omega) (by omega)))
  first | replace HW0 := Lib.hid (Ints.only HW0.out hb (by omega) (by omega)) | replace HW0 := Lib.hid (Ints.below HW0.out hb (by omega))
  first | replace HX2 := Lib.hid (Ints.only HX2.out hb (by omega) (by omega)) | replace HX2 := Lib.hid (Ints.below HX2.out hb (by omega))
  first | replace HOW := Lib.hid (ownsRow_only HOW.out hb (by omega)) | replace HOW := Lib.hid (ownsRow_below' HOW.out hb (by omega))
  first | replace HU2 := Lib.hid (Tasks.only HU2.out hb (by omega) (by omega)) | replace HU2 := Lib.hid (Tasks.below HU2.out hb (by omega))
  first | replace HG0 := Lib.hid (Ints.only HG0.out hb (by omega) (by omega)) | replace HG0 := Lib.hid (Ints.below HG0.out hb (by omega))
  clear hb
  have HU3 := Lib.hid hT; have HU3L := Lib.hid hul; have HU3M := Lib.hid hum; clear hT hul hum
  go_wp2_with fail
  have h5 := eqTaskS_eq (some ⟨g, 0, none⟩) A11 ts.length c11 _ _ _ _ us2 us11 w11 HU2.out HU3.out (by rw [HU2M.out, HU3M.out]) (by rw [HU2L.out]; omega) (same_needs (Q := fun _ n => n.length ≤ 2097152) HU2M.out (fun t ht => by have := HLE.out t ht; omega)) (by omega) (by omega)
  rw [HU2L.out, HU3L.out] at h5
  have H5 := Lib.hid h5; clear h5
  refine (H5.out).mono ?_; rintro e w12 ⟨rfl, hb⟩
  have hs12 := hb.size
  replace HND := Lib.hid (fun u hu => (HND.out u hu).below hb (by omega))
  first | replace HA := Lib.hid (IntsR.below HA.out hb (by omega)) | replace HA := Lib.hid (IntsR.below HA.out (Only.below hb (by omega) (by omega)) (by omega))
  first | replace HC := Lib.hid (TasksR.below HC.out hb (by omega)) | replace HC := Lib.hid (TasksR.below HC.out (Only.below hb (by omega) (by omega)) (by omega))
  first | replace HB := Lib.hid (Below.trans HB.out (Below.mono hb (by omega))) | replace HB := Lib.hid (Below.trans HB.out (Only.below hb (by omega) (by omega)))
  first | replace HW0 := Lib.hid (Ints.only HW0.out hb (by omega) (by omega)) | replace HW0 := Lib.hid (Ints.below HW0.out hb (by omega))
  first | replace HX2 := Lib.hid (Ints.only HX2.out hb (by omega) (by omega)) | replace HX2 := Lib.hid (Ints.below HX2.out hb (by omega))
  first | replace HOW := Lib.hid (ownsRow_only HOW.out hb (by omega)) | replace HOW := Lib.hid (ownsRow_below' HOW.out hb (by omega))
  first | replace HU2 := Lib.hid (Tasks.only HU2.out hb (by omega) (by omega)) | replace HU2 := Lib.hid (Tasks.below HU2.out hb (by omega))
  first | replace HG0 := Lib.hid (Ints.only HG0.out hb (by omega) (by omega)) | replace HG0 := Lib.hid (Ints.below HG0.out hb (by omega))
  first | replace HU3 := Lib.hid (Tasks.only HU3.out hb (by omega) (by omega)) | replace HU3 := Lib.hid (Tasks.below HU3.out hb (by omega))
  clear hb
  clear H5
  clear HU3 HU2
  go_wp2_with fail
  refine (markIntS_any A5 c5 _ _ ya 1 w12 HX2.out (by omega) (by omega)).mono ?_; rintro e w13 ⟨rfl, hI, hO, hs⟩
  obtain ⟨hs13, hs13'⟩ := le_le hs; clear hs
  replace HND := Lib.hid (fun u hu => (HND.out u hu).only hO (by omega) (by omega))
  replace HOW := Lib.hid (ownsRow_only HOW.out hO (by omega))
  first | replace HA := Lib.hid (IntsR.below HA.out hO (by omega)) | replace HA := Lib.hid (IntsR.below HA.out (Only.below hO (by omega) (by omega)) (by omega))
  first | replace HC := Lib.hid (TasksR.below HC.out hO (by omega)) | replace HC := Lib.hid (TasksR.below HC.out (Only.below hO (by omega) (by omega)) (by omega))
  first | replace HB := Lib.hid (Below.trans HB.out (Below.mono hO (by omega))) | replace HB := Lib.hid (Below.trans HB.out (Only.below hO (by omega) (by omega)))
  first | replace HW0 := Lib.hid (Ints.only HW0.out hO (by omega) (by omega)) | replace HW0 := Lib.hid (Ints.below HW0.out hO (by omega))
  first | replace HG0 := Lib.hid (Ints.only HG0.out hO (by omega) (by omega)) | replace HG0 := Lib.hid (Ints.below HG0.out hO (by omega))
  clear hO
  clear hI HX2
  obtain ⟨kk, hkk⟩ : ∃ k : Int, 1 + (ya.length : Int) = k := ⟨_, rfl⟩
  have hkb : 0 ≤ kk ∧ kk ≤ 1048577 := by omega
  rw [hkk]
  clear hkk
  have h5 := markTaskS_any g ts.length hi2 us2 kk w13 (by rw [HU2L.out]; exact HOW.out) HND.out HSP.out (by rw [HU2L.out]; omega) (same_needs (Q := fun _ n => n.length ≤ 1048576) HU2M.out HLE.out) (by omega) (by omega) (by omega)
  rw [HU2L.out] at h5
  have H5 := Lib.hid h5; clear h5
  go_wp2_with fail
  refine (H5.out).mono ?_; rintro e w14 ⟨r5, rfl, hr5, hO, hs⟩
  obtain ⟨hs14, hs14'⟩ := le_le hs; clear hs
  first | replace HA := Lib.hid (IntsR.below HA.out hO (by omega)) | replace HA := Lib.hid (IntsR.below HA.out (Only.below hO (by omega) (by omega)) (by omega))
  first | replace HC := Lib.hid (TasksR.below HC.out hO (by omega)) | replace HC := Lib.hid (TasksR.below HC.out (Only.below hO (by omega) (by omega)) (by omega))
  first | replace HB := Lib.hid (Below.trans HB.out (Below.mono hO (by omega))) | replace HB := Lib.hid (Below.trans HB.out (Only.below hO (by omega) (by omega)))
  first | replace HW0 := Lib.hid (Ints.only HW0.out hO (by omega) (by omega)) | replace HW0 := Lib.hid (Ints.below HW0.out hO (by omega))
  first | replace HG0 := Lib.hid (Ints.only HG0.out hO (by omega) (by omega)) | replace HG0 := Lib.hid (Ints.below HG0.out hO (by omega))
  clear hO
  clear H5 HOW HND HSP
  go_wp2_with fail
  refine (eqIntS_eq A7 A4 c7 c4 _ _ _ _ zs w14 HG0.out HW0.out (by omega)).mono ?_; rintro e w15 ⟨rfl, hd⟩
  have hb := drawn_below hd; clear hd
  have hs15 := hb.size
  first | replace HA := Lib.hid (IntsR.below HA.out hb (by omega)) | replace HA := Lib.hid (IntsR.below HA.out (Only.below hb (by omega) (by omega)) (by omega))
  first | replace HC := Lib.hid (TasksR.below HC.out hb (by omega)) | replace HC := Lib.hid (TasksR.below HC.out (Only.below hb (by omega) (by omega)) (by omega))
  first | replace HB := Lib.hid (Below.trans HB.out (Below.mono hb (by omega))) | replace HB := Lib.hid (Below.trans HB.out (Only.below hb (by omega) (by omega)))
  first | replace HW0 := Lib.hid (Ints.only HW0.out hb (by omega) (by omega)) | replace HW0 := Lib.hid (Ints.below HW0.out hb (by omega))
  first | replace HG0 := Lib.hid (Ints.only HG0.out hb (by omega) (by omega)) | replace HG0 := Lib.hid (Ints.below HG0.out hb (by omega))
  clear hb
  go_wp2_with fail
  refine (markIntS_any A7 c7 _ _ zs 1 w15 HG0.out (by omega) (by omega)).mono ?_; rintro e w16 ⟨rfl, hI, hO, hs⟩
  obtain ⟨hs16, hs16'⟩ := le_le hs; clear hs
  first | replace HA := Lib.hid (IntsR.below HA.out hO (by omega)) | replace HA := Lib.hid (IntsR.below HA.out (Only.below hO (by omega) (by omega)) (by omega))
  first | replace HC := Lib.hid (TasksR.below HC.out hO (by omega)) | replace HC := Lib.hid (TasksR.below HC.out (Only.below hO (by omega) (by omega)) (by omega))
  first | replace HB := Lib.hid (Below.trans HB.out (Below.mono hO (by omega))) | replace HB := Lib.hid (Below.trans HB.out (Only.below hO (by omega) (by omega)))
  first | replace HW0 := Lib.hid (Ints.only HW0.out hO (by omega) (by omega)) | replace HW0 := Lib.hid (Ints.below HW0.out hO (by omega))
  clear hO
  replace HG0 := Lib.hid hI; clear hI
  go_wp2_with fail
  refine (heldIntS_any A7 c7 _ _ zs.length 1 _ HG0.out (by omega) (by omega)).mono ?_; rintro e w' ⟨rfl, rfl⟩
  go_wp2_with fail
  refine (toIntS_any A c _ ya w16 HA.out (by omega) (by omega)).mono ?_; rintro e w17 ⟨A17, c17, rfl, hI, hb⟩
  have hs17 := hb.size
  first | replace HA := Lib.hid (IntsR.below HA.out hb (by omega)) | replace HA := Lib.hid (IntsR.below HA.out (Only.below hb (by omega) (by omega)) (by omega))
  first | replace HC := Lib.hid (TasksR.below HC.out hb (by omega)) | replace HC := Lib.hid (TasksR.below HC.out (Only.below hb (by omega) (by omega)) (by omega))
  first | replace HB := Lib.hid (Below.trans HB.out (Below.mono hb (by omega))) | replace HB := Lib.hid (Below.trans HB.out (Only.below hb (by omega) (by omega)))
  first | replace HW0 := Lib.hid (Ints.only HW0.out hb (by omega) (by omega)) | replace HW0 := Lib.hid (Ints.below HW0.out hb (by omega))
  first | replace HG0 := Lib.hid (Ints.only HG0.out hb (by omega) (by omega)) | replace HG0 := Lib.hid (Ints.below HG0.out hb (by omega))
  clear hb
  have HX4 := Lib.hid hI; clear hI
  go_wp2_with fail
  refine (toTaskS_any B d _ ts w17 HC.out (by omega) HLE.out (by omega)).mono ?_; rintro e w18 ⟨A18, c18, us18, rfl, hul, hum, hT, hb⟩
  have hs18 := hb.size
  first | replace HA := Lib.hid (IntsR.below HA.out hb (by omega)) | replace HA := Lib.hid (IntsR.below HA.out (Only.below hb (by omega) (by omega)) (by omega))
  first | replace HC := Lib.hid (TasksR.below HC.out hb (by omega)) | replace HC := Lib.hid (TasksR.below HC.out (Only.below hb (by omega) (by omega)) (by omega))
  first | replace HB := Lib.hid (Below.trans HB.out (Below.mono hb (by omega))) | replace HB := Lib.hid (Below.trans HB.out (Only.below hb (by omega) (by omega)))
  first | replace HW0 := Lib.hid (Ints.only HW0.out hb (by omega) (by omega)) | replace HW0 := Lib.hid (Ints.below HW0.out hb (by omega))
  first | replace HG0 := Lib.hid (Ints.only HG0.out hb (by omega) (by omega)) | replace HG0 := Lib.hid (Ints.below HG0.out hb (by omega))
  first | replace HX4 := Lib.hid (Ints.only HX4.out hb (by omega) (by omega)) | replace HX4 := Lib.hid (Ints.below HX4.out hb (by omega))
  clear hb
  have HU4 := Lib.hid hT; have HU4L := Lib.hid hul; have HU4M := Lib.hid hum; clear hT hul hum
  go_wp2_with fail
  have h5 := binLoad_any A17 c17 _ _ ya A18 c18 _ _ us18 w18 HX4.out (by omega) HU4.out (by rw [HU4L.out]; omega) (same_needs (Q := fun _ n => n.length ≤ 1048576) HU4M.out HLE.out) (same_needs (Q := fun i _ => (Lit.int .i64 i).wf = true) HU4M.out HWF.out) (by omega) (by omega)
  rw [HU4L.out, HU4M.out, HZS.out] at h5
  have H5 := Lib.hid h5; clear h5
  refine (H5.out).mono ?_; rintro e w19 ⟨A19, c19, rfl, hI, hb⟩
  have hs19 := hb.size
  first | replace HA := Lib.hid (IntsR.below HA.out hb (by omega)) | replace HA := Lib.hid (IntsR.below HA.out (Only.below hb (by omega) (by omega)) (by omega))
  first | replace HC := Lib.hid (TasksR.below HC.out hb (by omega)) | replace HC := Lib.hid (TasksR.below HC.out (Only.below hb (by omega) (by omega)) (by omega))
  first | replace HB := Lib.hid (Below.trans HB.out (Below.mono hb (by omega))) | replace HB := Lib.hid (Below.trans HB.out (Only.below hb (by omega) (by omega)))
  first | replace HW0 := Lib.hid (Ints.only HW0.out hb (by omega) (by omega)) | replace HW0 := Lib.hid (Ints.below HW0.out hb (by omega))
  first | replace HG0 := Lib.hid (Ints.only HG0.out hb (by omega) (by omega)) | replace HG0 := Lib.hid (Ints.below HG0.out hb (by omega))
  first | replace HX4 := Lib.hid (Ints.only HX4.out hb (by omega) (by omega)) | replace HX4 := Lib.hid (Ints.below HX4.out hb (by omega))
  first | replace HU4 := Lib.hid (Tasks.only HU4.out hb (by omega) (by omega)) | replace HU4 := Lib.hid (Tasks.below HU4.out hb (by omega))
  clear hb
  have HH0 := Lib.hid hI; clear hI H5
  go_wp2_with fail
  refine (eqIntS_eq A19 A4 c19 c4 _ _ _ _ zs w19 HH0.out HW0.out (by omega)).mono ?_; rintro e w20 ⟨rfl, hd⟩
  have hb := drawn_below hd; clear hd
  have hs20 := hb.size
  first | replace HA := Lib.hid (IntsR.below HA.out hb (by omega)) | replace HA := Lib.hid (IntsR.below HA.out (Only.below hb (by omega) (by omega)) (by omega))
  first | replace HC := Lib.hid (TasksR.below HC.out hb (by omega)) | replace HC := Lib.hid (TasksR.below HC.out (Only.below hb (by omega) (by omega)) (by omega))
  first | replace HB := Lib.hid (Below.trans HB.out (Below.mono hb (by omega))) | replace HB := Lib.hid (Below.trans HB.out (Only.below hb (by omega) (by omega)))
  first | replace HW0 := Lib.hid (Ints.only HW0.out hb (by omega) (by omega)) | replace HW0 := Lib.hid (Ints.below HW0.out hb (by omega))
  first | replace HG0 := Lib.hid (Ints.only HG0.out hb (by omega) (by omega)) | replace HG0 := Lib.hid (Ints.below HG0.out hb (by omega))
  first | replace HX4 := Lib.hid (Ints.only HX4.out hb (by omega) (by omega)) | replace HX4 := Lib.hid (Ints.below HX4.out hb (by omega))
  first | replace HU4 := Lib.hid (Tasks.only HU4.out hb (by omega) (by omega)) | replace HU4 := Lib.hid (Tasks.below HU4.out hb (by omega))
  first | replace HH0 := Lib.hid (Ints.only HH0.out hb (by omega) (by omega)) | replace HH0 := Lib.hid (Ints.below HH0.out hb (by omega))
  clear hb
  go_wp2_with fail
  refine (heldIntS_any A7 c7 _ _ zs.length 1 _ HG0.out (by omega) (by omega)).mono ?_; rintro e w' ⟨rfl, rfl⟩
  go_wp2_with fail
  go_ret
  exact ⟨by simp, HB.out⟩
end Go.Proofs.Ytlkhfmpkbjemhaa
