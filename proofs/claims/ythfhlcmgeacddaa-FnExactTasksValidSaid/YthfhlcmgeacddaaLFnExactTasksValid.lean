/- The walk of one exact statement: by the contracts of what it calls it returns true and changes nothing that was there. No condition. -/
import Derived.Test.YthfhlcmgeacddaaTs
import Derived.Test.YthfhlcmgeacddaaLo
namespace Go.Proofs.Ythfhlcmgeacddaa
open Go.RowKit
set_option maxHeartbeats 2000000 in
theorem FnExactTasksValid_walk (A : Option Addr) (c : Nat) (ya : List Int) (B : Option Addr) (d : Nat) (ts : List TaskV) (w : World) (hA : IntsR w w.heap.size A ya) (hB : TasksR w w.heap.size B ts) (hma : ya.length ≤ maxLen) (hmb : ts.length ≤ maxLen ∧ ∀ t, t ∈ ts → t.need.length ≤ maxLen ∧ (Lit.int .i64 t.id).wf = true) :
    Calls Try.prog 9 #[.slice A ya.length c, .slice B ts.length d] w fun e w' => e = .returned (.bool true) ∧ Below w.heap.size w w' := by
  have HA := Lib.hid hA; clear hA
  have HC := Lib.hid hB; clear hB
  have HWF := Lib.hid (fun t ht => (hmb.2 t ht).2 : ∀ t, t ∈ ts → (Lit.int .i64 t.id).wf = true)
  have HML := Lib.hid (fun t ht => (hmb.2 t ht).1 : ∀ t, t ∈ ts → t.need.length ≤ maxLen)
  have hml := hmb.1
  clear hmb
  have hma' : ya.length ≤ 9223372036854775807 := by simpa [maxLen] using hma
  clear hma
  by_cases hla : 1048576 < ya.length
  · have hla' : (1048576 : Int) < ya.length := by omega
    go_enter Try.func9, Try.ntmps9
    go_wp2_with fail
    go_ret
    exact ⟨by simp, Below.refl _ _⟩
  have hla' : ¬ ((1048576 : Int) < ya.length) := by omega
  have HB := Lib.hid (Below.refl w.heap.size w)
  go_enter Try.func9, Try.ntmps9
  go_wp2_with fail
  refine (szTaskS_any B d _ ts 1048576 w HC.out (by omega) hml HML.out (Nat.le_refl _)).mono ?_; rintro e w1 ⟨u, rfl, hu, hb⟩
  have hs1 := hb.size
  first | replace HA := Lib.hid (IntsR.below HA.out hb (by omega)) | replace HA := Lib.hid (IntsR.below HA.out (Only.below hb (by omega) (by omega)) (by omega))
  first | replace HC := Lib.hid (TasksR.below HC.out hb (by omega)) | replace HC := Lib.hid (TasksR.below HC.out (Only.below hb (by omega) (by omega)) (by omega))
  first | replace HB := Lib.hid (Below.trans HB.out (Below.mono hb (by omega))) | replace HB := Lib.hid (Below.trans HB.out (Only.below hb (by omega) (by omega)))
  clear hb
  by_cases hu0 : u < 0
  · go_wp2_with fail
    go_ret
    exact ⟨by simp, HB.out⟩
  have hle := (hu (by omega)).1
  have HLE := Lib.hid (hu (by omega)).2
  clear hu hml HML
  obtain ⟨v, hv⟩ : ∃ v, tasksB ya (ts.map pv) = v := ⟨_, rfl⟩
  have HVv := Lib.hid hv; clear hv
  go_wp2_with fail
  refine (toIntS_any A c _ ya w1 HA.out (by omega) (by omega)).mono ?_; rintro e w2 ⟨A2, c2, rfl, hI, hb⟩
  have hs2 := hb.size
  first | replace HA := Lib.hid (IntsR.below HA.out hb (by omega)) | replace HA := Lib.hid (IntsR.below HA.out (Only.below hb (by omega) (by omega)) (by omega))
  first | replace HC := Lib.hid (TasksR.below HC.out hb (by omega)) | replace HC := Lib.hid (TasksR.below HC.out (Only.below hb (by omega) (by omega)) (by omega))
  first | replace HB := Lib.hid (Below.trans HB.out (Below.mono hb (by omega))) | replace HB := Lib.hid (Below.trans HB.out (Only.below hb (by omega) (by omega)))
  clear hb
  have HX1 := Lib.hid hI; clear hI
  go_wp2_with fail
  refine (toTaskS_any B d _ ts w2 HC.out (by omega) HLE.out (by omega)).mono ?_; rintro e w3 ⟨A3, c3, us3, rfl, hul, hum, hT, hb⟩
  have hs3 := hb.size
  first | replace HA := Lib.hid (IntsR.below HA.out hb (by omega)) | replace HA := Lib.hid (IntsR.below HA.out (Only.below hb (by omega) (by omega)) (by omega))
  first | replace HC := Lib.hid (TasksR.below HC.out hb (by omega)) | replace HC := Lib.hid (TasksR.below HC.out (Only.below hb (by omega) (by omega)) (by omega))
  first | replace HB := Lib.hid (Below.trans HB.out (Below.mono hb (by omega))) | replace HB := Lib.hid (Below.trans HB.out (Only.below hb (by omega) (by omega)))
  first | replace HX1 := Lib.hid (Ints.only HX1.out hb (by omega) (by omega)) | replace HX1 := Lib.hid (Ints.below HX1.out hb (by omega))
  clear hb
  have HU1 := Lib.hid hT; have HU1L := Lib.hid hul; have HU1M := Lib.hid hum; clear hT hul hum
  go_wp2_with fail
  have h5 := tasksValidS_any A2 c2 _ _ ya A3 c3 _ _ us3 w3 HX1.out (by omega) HU1.out (by rw [HU1L.out]; omega) (same_needs (Q := fun _ n => n.length ≤ 1048576) HU1M.out HLE.out) (by omega) (by omega)
  rw [HU1L.out, HU1M.out] at h5
  have H5 := Lib.hid h5; clear h5
  refine (H5.out).mono ?_; rintro e w4 ⟨rfl, hb⟩
  have hs4 := hb.size
  first | replace HA := Lib.hid (IntsR.below HA.out hb (by omega)) | replace HA := Lib.hid (IntsR.below HA.out (Only.below hb (by omega) (by omega)) (by omega))
  first | replace HC := Lib.hid (TasksR.below HC.out hb (by omega)) | replace HC := Lib.hid (TasksR.below HC.out (Only.below hb (by omega) (by omega)) (by omega))
  first | replace HB := Lib.hid (Below.trans HB.out (Below.mono hb (by omega))) | replace HB := Lib.hid (Below.trans HB.out (Only.below hb (by omega) (by omega)))
  first | replace HX1 := Lib.hid (Ints.only HX1.out hb (by omega) (by omega)) | replace HX1 := Lib.hid (Ints.below HX1.out hb (by omega))
  first | replace HU1 := Lib.hid (Tasks.only HU1.out hb (by omega) (by omega)) | replace HU1 := Lib.hid (Tasks.below HU1.out hb (by omega))
  clear hb
  rw [HVv.out]
  clear H5
  clear HX1 HU1
  go_wp2_with fail
  refine (toIntS_any A c _ ya w4 HA.out (by omega) (by omega)).mono ?_; rintro e w5 ⟨A5, c5, rfl, hI, hb⟩
  have hs5 := hb.size
  first | replace HA := Lib.hid (IntsR.below HA.out hb (by omega)) | replace HA := Lib.hid (IntsR.below HA.out (Only.below hb (by omega) (by omega)) (by omega))
  first | replace HC := Lib.hid (TasksR.below HC.out hb (by omega)) | replace HC := Lib.hid (TasksR.below HC.out (Only.below hb (by omega) (by omega)) (by omega))
  first | replace HB := Lib.hid (Below.trans HB.out (Below.mono hb (by omega))) | replace HB := Lib.hid (Below.trans HB.out (Only.below hb (by omega) (by omega)))
  clear hb
  have HX2 := Lib.hid hI; clear hI
  go_wp2_with fail
  refine (toTaskS_any B d _ ts w5 HC.out (by omega) HLE.out (by omega)).mono ?_; rintro e w6 ⟨A6, c6, us6, rfl, hul, hum, hT, hb⟩
  have hs6 := hb.size
  first | replace HA := Lib.hid (IntsR.below HA.out hb (by omega)) | replace HA := Lib.hid (IntsR.below HA.out (Only.below hb (by omega) (by omega)) (by omega))
  first | replace HC := Lib.hid (TasksR.below HC.out hb (by omega)) | replace HC := Lib.hid (TasksR.below HC.out (Only.below hb (by omega) (by omega)) (by omega))
  first | replace HB := Lib.hid (Below.trans HB.out (Below.mono hb (by omega))) | replace HB := Lib.hid (Below.trans HB.out (Only.below hb (by omega) (by omega)))
  first | replace HX2 := Lib.hid (Ints.only HX2.out hb (by omega) (by omega)) | replace HX2 := Lib.hid (Ints.below HX2.out hb (by omega))
  clear hb
  have HU2 := Lib.hid hT; have HU2L := Lib.hid hul; have HU2M := Lib.hid hum; clear hT hul hum
  go_wp2_with fail
  have h5 := tasksValid_any A5 c5 _ _ ya A6 c6 _ _ us6 w6 HX2.out (by omega) HU2.out (by rw [HU2L.out]; omega) (same_needs (Q := fun _ n => n.length ≤ 1048576) HU2M.out HLE.out) (same_needs (Q := fun i _ => (Lit.int .i64 i).wf = true) HU2M.out HWF.out) (by omega) (by omega)
  rw [HU2L.out, HU2M.out] at h5
  have H5 := Lib.hid h5; clear h5
  refine (H5.out).mono ?_; rintro e w7 ⟨rfl, hb⟩
  have hs7 := hb.size
  first | replace HA := Lib.hid (IntsR.below HA.out hb (by omega)) | replace HA := Lib.hid (IntsR.below HA.out (Only.below hb (by omega) (by omega)) (by omega))
  first | replace HC := Lib.hid (TasksR.below HC.out hb (by omega)) | replace HC := Lib.hid (TasksR.below HC.out (Only.below hb (by omega) (by omega)) (by omega))
  first | replace HB := Lib.hid (Below.trans HB.out (Below.mono hb (by omega))) | replace HB := Lib.hid (Below.trans HB.out (Only.below hb (by omega) (by omega)))
  first | replace HX2 := Lib.hid (Ints.only HX2.out hb (by omega) (by omega)) | replace HX2 := Lib.hid (Ints.below HX2.out hb (by omega))
  first | replace HU2 := Lib.hid (Tasks.only HU2.out hb (by omega) (by omega)) | replace HU2 := Lib.hid (Tasks.below HU2.out hb (by omega))
  clear hb
  rw [HVv.out]
  clear H5
  go_wp2_with fail
  refine (toIntS_any A c _ ya w7 HA.out (by omega) (by omega)).mono ?_; rintro e w8 ⟨A8, c8, rfl, hI, hb⟩
  have hs8 := hb.size
  first | replace HA := Lib.hid (IntsR.below HA.out hb (by omega)) | replace HA := Lib.hid (IntsR.below HA.out (Only.below hb (by omega) (by omega)) (by omega))
  first | replace HC := Lib.hid (TasksR.below HC.out hb (by omega)) | replace HC := Lib.hid (TasksR.below HC.out (Only.below hb (by omega) (by omega)) (by omega))
  first | replace HB := Lib.hid (Below.trans HB.out (Below.mono hb (by omega))) | replace HB := Lib.hid (Below.trans HB.out (Only.below hb (by omega) (by omega)))
  first | replace HX2 := Lib.hid (Ints.only HX2.out hb (by omega) (by omega)) | replace HX2 := Lib.hid (Ints.below HX2.out hb (by omega))
  first | replace HU2 := Lib.hid (Tasks.only HU2.out hb (by omega) (by omega)) | replace HU2 := Lib.hid (Tasks.below HU2.out hb (by omega))
  clear hb
  have HX3 := Lib.hid hI; clear hI
  go_wp2_with fail
  refine (eqIntS_eq A5 A8 c5 c8 _ _ _ _ ya w8 HX2.out HX3.out (by omega)).mono ?_; rintro e w9 ⟨rfl, hd⟩
  have hb := drawn_below hd; clear hd
  have hs9 := hb.size
  first | replace HA := Lib.hid (IntsR.below HA.out hb (by omega)) | replace HA := Lib.hid (IntsR.below HA.out (Only.below hb (by omega) (by omega)) (by omega))
  first | replace HC := Lib.hid (TasksR.below HC.out hb (by omega)) | replace HC := Lib.hid (TasksR.below HC.out (Only.below hb (by omega) (by omega)) (by omega))
  first | replace HB := Lib.hid (Below.trans HB.out (Below.mono hb (by omega))) | replace HB := Lib.hid (Below.trans HB.out (Only.below hb (by omega) (by omega)))
  first | replace HX2 := Lib.hid (Ints.only HX2.out hb (by omega) (by omega)) | replace HX2 := Lib.hid (Ints.below HX2.out hb (by omega))
  first | replace HU2 := Lib.hid (Tasks.only HU2.out hb (by omega) (by omega)) | replace HU2 := Lib.hid (Tasks.below HU2.out hb (by omega))
  first | replace HX3 := Lib.hid (Ints.only HX3.out hb (by omega) (by omega)) | replace HX3 := Lib.hid (Ints.below HX3.out hb (by omega))
  clear hb
  clear HX3 HX2
  go_wp2_with fail
  refine (toTaskS_any B d _ ts w9 HC.out (by omega) HLE.out (by omega)).mono ?_; rintro e w10 ⟨A10, c10, us10, rfl, hul, hum, hT, hb⟩
  have hs10 := hb.size
  first | replace HA := Lib.hid (IntsR.below HA.out hb (by omega)) | replace HA := Lib.hid (IntsR.below HA.out (Only.below hb (by omega) (by omega)) (by omega))
  first | replace HC := Lib.hid (TasksR.below HC.out hb (by omega)) | replace HC := Lib.hid (TasksR.below HC.out (Only.below hb (by omega) (by omega)) (by omega))
  first | replace HB := Lib.hid (Below.trans HB.out (Below.mono hb (by omega))) | replace HB := Lib.hid (Below.trans HB.out (Only.below hb (by omega) (by omega)))
  first | replace HU2 := Lib.hid (Tasks.only HU2.out hb (by omega) (by omega)) | replace HU2 := Lib.hid (Tasks.below HU2.out hb (by omega))
  clear hb
  have HU3 := Lib.hid hT; have HU3L := Lib.hid hul; have HU3M := Lib.hid hum; clear hT hul hum
  go_wp2_with fail
  have h5 := eqTaskS_eq A6 A10 c6 c10 _ _ _ _ us6 us10 w10 HU2.out HU3.out (by rw [HU2M.out, HU3M.out]) (by rw [HU2L.out]; omega) (same_needs (Q := fun _ n => n.length ≤ 2097152) HU2M.out (fun t ht => by have := HLE.out t ht; omega)) (by omega) (by omega)
  rw [HU2L.out, HU3L.out] at h5
  have H5 := Lib.hid h5; clear h5
  refine (H5.out).mono ?_; rintro e w11 ⟨rfl, hb⟩
  have hs11 := hb.size
  first | replace HA := Lib.hid (IntsR.below HA.out hb (by omega)) | replace HA := Lib.hid (IntsR.below HA.out (Only.below hb (by omega) (by omega)) (by omega))
  first | replace HC := Lib.hid (TasksR.below HC.out hb (by omega)) | replace HC := Lib.hid (TasksR.below HC.out (Only.below hb (by omega) (by omega)) (by omega))
  first | replace HB := Lib.hid (Below.trans HB.out (Below.mono hb (by omega))) | replace HB := Lib.hid (Below.trans HB.out (Only.below hb (by omega) (by omega)))
  first | replace HU2 := Lib.hid (Tasks.only HU2.out hb (by omega) (by omega)) | replace HU2 := Lib.hid (Tasks.below HU2.out hb (by omega))
  first | replace HU3 := Lib.hid (Tasks.only HU3.out hb (by omega) (by omega)) | replace HU3 := Lib.hid (Tasks.below HU3.out hb (by omega))
  clear hb
  clear H5
  go_wp2_with fail
  go_ret
  exact ⟨by simp, HB.out⟩
end Go.Proofs.Ythfhlcmgeacddaa
