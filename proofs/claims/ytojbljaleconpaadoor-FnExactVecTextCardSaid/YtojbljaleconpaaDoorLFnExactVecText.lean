/- The walk of one exact statement: by the contracts of what it calls it returns true and changes nothing that was there. No condition. -/
import Derived.Test.YtojbljaleconpaaDoorVi
namespace Go.Proofs.YtojbljaleconpaaDoor
open Go.RowKit
theorem FnExactVecText_walk (A : Option Addr) (c : Nat) (ya : List Int) (w : World) (hA : IntsR w w.heap.size A ya) (hma : ya.length ≤ maxLen) :
    Calls Tryd.prog 3 #[.slice A ya.length c] w fun e w' => e = .returned (.bool true) ∧ Below w.heap.size w w' := by
  have HA := Lib.hid hA; clear hA
  have hma' : ya.length ≤ 9223372036854775807 := by simpa [maxLen] using hma
  clear hma
  by_cases hla : 1048576 < ya.length
  · have hla' : (1048576 : Int) < ya.length := by omega
    go_enter Tryd.func3, Tryd.ntmps3
    go_wp2_with fail
    go_ret
    exact ⟨by simp, Below.refl _ _⟩
  have hla' : ¬ ((1048576 : Int) < ya.length) := by omega
  have HB := Lib.hid (Below.refl w.heap.size w)
  obtain ⟨T, hT⟩ : ∃ T, textB ya = T := ⟨_, rfl⟩
  have HT := Lib.hid hT; clear hT
  go_enter Tryd.func3, Tryd.ntmps3
  go_wp2_with fail
  refine (toIntS_any A c _ ya w HA.out (by omega) (by omega)).mono ?_; rintro e w1 ⟨A1, c1, rfl, hI, hb⟩
  have hs1 := hb.size
  first | replace HA := Lib.hid (IntsR.below HA.out hb (by omega)) | replace HA := Lib.hid (IntsR.below HA.out (Only.below hb (by omega) (by omega)) (by omega))
  first | replace HB := Lib.hid (Below.trans HB.out (Below.mono hb (by omega))) | replace HB := Lib.hid (Below.trans HB.out (Only.below hb (by omega) (by omega)))
  clear hb
  have HX1 := Lib.hid hI; clear hI
  go_wp2_with fail
  refine (vecTextS_any A1 c1 _ _ ya w1 HX1.out (by omega) (by omega)).mono ?_; rintro e w2 ⟨rfl, hb⟩
  rw [HT.out]
  have hs2 := hb.size
  first | replace HA := Lib.hid (IntsR.below HA.out hb (by omega)) | replace HA := Lib.hid (IntsR.below HA.out (Only.below hb (by omega) (by omega)) (by omega))
  first | replace HB := Lib.hid (Below.trans HB.out (Below.mono hb (by omega))) | replace HB := Lib.hid (Below.trans HB.out (Only.below hb (by omega) (by omega)))
  clear hb HX1
  go_wp2_with fail
  refine (toIntS_any A c _ ya w2 HA.out (by omega) (by omega)).mono ?_; rintro e w3 ⟨A3, c3, rfl, hI, hb⟩
  have hs3 := hb.size
  first | replace HA := Lib.hid (IntsR.below HA.out hb (by omega)) | replace HA := Lib.hid (IntsR.below HA.out (Only.below hb (by omega) (by omega)) (by omega))
  first | replace HB := Lib.hid (Below.trans HB.out (Below.mono hb (by omega))) | replace HB := Lib.hid (Below.trans HB.out (Only.below hb (by omega) (by omega)))
  clear hb
  have HX2 := Lib.hid hI; clear hI
  go_wp2_with fail
  refine (vecText_any A3 c3 _ _ ya w3 HX2.out (by omega) (by omega)).mono ?_; rintro e w4 ⟨rfl, hb⟩
  rw [HT.out]
  have hs4 := hb.size
  first | replace HA := Lib.hid (IntsR.below HA.out hb (by omega)) | replace HA := Lib.hid (IntsR.below HA.out (Only.below hb (by omega) (by omega)) (by omega))
  first | replace HB := Lib.hid (Below.trans HB.out (Below.mono hb (by omega))) | replace HB := Lib.hid (Below.trans HB.out (Only.below hb (by omega) (by omega)))
  first | replace HX2 := Lib.hid (Ints.only HX2.out hb (by omega) (by omega)) | replace HX2 := Lib.hid (Ints.below HX2.out hb (by omega))
  clear hb
  go_wp2_with fail
  refine (toIntS_any A c _ ya w4 HA.out (by omega) (by omega)).mono ?_; rintro e w5 ⟨A5, c5, rfl, hI, hb⟩
  have hs5 := hb.size
  first | replace HB := Lib.hid (Below.trans HB.out (Below.mono hb (by omega))) | replace HB := Lib.hid (Below.trans HB.out (Only.below hb (by omega) (by omega)))
  first | replace HX2 := Lib.hid (Ints.only HX2.out hb (by omega) (by omega)) | replace HX2 := Lib.hid (Ints.below HX2.out hb (by omega))
  clear hb
  have HX3 := Lib.hid hI; clear hI
  go_wp2_with fail
  refine (eqIntS_eq A3 A5 c3 c5 _ _ _ _ ya w5 HX2.out HX3.out (by omega)).mono ?_; rintro e w6 ⟨rfl, hd⟩
  have hb := drawn_below hd; clear hd
  first | replace HB := Lib.hid (Below.trans HB.out (Below.mono hb (by omega))) | replace HB := Lib.hid (Below.trans HB.out (Only.below hb (by omega) (by omega)))
  clear hb
  go_wp2_with fail
  go_ret
  exact ⟨by simp, HB.out⟩
end Go.Proofs.YtojbljaleconpaaDoor
