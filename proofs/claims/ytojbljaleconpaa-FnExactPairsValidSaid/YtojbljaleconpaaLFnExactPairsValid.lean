/- The walk of one exact statement: by the contracts of what it calls it returns true and changes nothing that was there. No condition. -/
import Derived.Test.YtojbljaleconpaaPz
import Derived.Test.YtojbljaleconpaaPq
namespace Go.Proofs.Ytojbljaleconpaa
open Go.RowKit
theorem Pairs.r {w : World} {lo hi c : Nat} {A : Option Addr} {ps : List (Int × Int)} (h : Pairs w lo hi A c ps) : PairsR w hi A ps := by
  by_cases h0 : ps.length = 0
  · exact .inl (List.eq_nil_of_length_eq_zero h0)
  · obtain ⟨b, off, h1, h2, h3, h4⟩ := h.form (by omega)
    refine .inr ⟨b, off, h1, h3, fun j p hj => ?_⟩
    obtain ⟨e1, e2⟩ := prow_at hj
    exact ⟨h4 _ _ e1, by rw [Nat.add_assoc]; exact h4 _ _ e2⟩
set_option maxHeartbeats 2000000 in
theorem FnExactPairsValid_walk (B : Option Addr) (d : Nat) (ts : List (Int × Int)) (w : World) (hB : PairsR w w.heap.size B ts) (hmb : ts.length ≤ maxLen ∧ ∀ t, t ∈ ts → (Lit.int .i64 t.1).wf = true ∧ (Lit.int .i64 t.2).wf = true) :
    Calls Try.prog 8 #[.slice B ts.length d] w fun e w' => e = .returned (.bool true) ∧ Below w.heap.size w w' := by
  have HC := Lib.hid hB; clear hB
  have hml := hmb.1
  clear hmb
  have HB := Lib.hid (Below.refl w.heap.size w)
  go_enter Try.func8, Try.ntmps8
  go_wp2_with fail
  refine (szPairS_any B ts.length d 1048576 w (by omega) hml).mono ?_; rintro e w1 ⟨u, rfl, hu, rfl⟩
  by_cases hu0 : u < 0
  · go_wp2_with fail
    go_ret
    exact ⟨by simp, HB.out⟩
  have hle0 := hu (by omega)
  have hle : ts.length ≤ 1048576 := by omega
  clear hu hml hle0
  obtain ⟨v, hv⟩ : ∃ v, pairsB ts = v := ⟨_, rfl⟩
  have HVv := Lib.hid hv; clear hv
  go_wp2_with fail
  refine (toPairS_any B d _ ts w HC.out hle (by omega)).mono ?_; rintro e w2 ⟨A2, c2, rfl, hR, hb⟩
  have hs2 := hb.size
  replace HC := Lib.hid (PairsR.below HC.out hb (by omega))
  first | replace HB := Lib.hid (Below.trans HB.out (Below.mono hb (by omega))) | replace HB := Lib.hid (Below.trans HB.out (Only.below hb (by omega) (by omega)))
  clear hb
  have HX1 := Lib.hid hR; clear hR
  go_wp2_with fail
  refine (pairsValidS_any A2 c2 _ _ ts w2 HX1.out hle (by omega)).mono ?_; rintro e w3 ⟨rfl, hb⟩
  have hs3 := hb.size
  rw [HVv.out]
  replace HC := Lib.hid (PairsR.below HC.out hb (by omega))
  first | replace HB := Lib.hid (Below.trans HB.out (Below.mono hb (by omega))) | replace HB := Lib.hid (Below.trans HB.out (Only.below hb (by omega) (by omega)))
  clear hb HX1
  go_wp2_with fail
  refine (toPairS_any B d _ ts w3 HC.out hle (by omega)).mono ?_; rintro e w4 ⟨A4, c4, rfl, hR, hb⟩
  have hs4 := hb.size
  replace HC := Lib.hid (PairsR.below HC.out hb (by omega))
  first | replace HB := Lib.hid (Below.trans HB.out (Below.mono hb (by omega))) | replace HB := Lib.hid (Below.trans HB.out (Only.below hb (by omega) (by omega)))
  clear hb
  have HX2 := Lib.hid hR; clear hR
  go_wp2_with fail
  refine (pairsValid_any A4 c4 _ _ ts w4 HX2.out hle (by omega)).mono ?_; rintro e w5 ⟨rfl, hb⟩
  have hs5 := hb.size
  rw [HVv.out]
  replace HX2 := Lib.hid (Pairs.r HX2.out)
  replace HC := Lib.hid (PairsR.below HC.out hb (by omega))
  first | replace HB := Lib.hid (Below.trans HB.out (Below.mono hb (by omega))) | replace HB := Lib.hid (Below.trans HB.out (Only.below hb (by omega) (by omega)))
  replace HX2 := Lib.hid (PairsR.below HX2.out hb (by omega))
  clear hb
  go_wp2_with fail
  refine (toPairS_any B d _ ts w5 HC.out hle (by omega)).mono ?_; rintro e w6 ⟨A6, c6, rfl, hR, hb⟩
  have hs6 := hb.size
  replace HC := Lib.hid (PairsR.below HC.out hb (by omega))
  first | replace HB := Lib.hid (Below.trans HB.out (Below.mono hb (by omega))) | replace HB := Lib.hid (Below.trans HB.out (Only.below hb (by omega) (by omega)))
  replace HX2 := Lib.hid (PairsR.below HX2.out hb (by omega))
  clear hb
  have HX3 := Lib.hid (Pairs.r hR); clear hR
  go_wp2_with fail
  refine (eqPairS_eq A4 A6 c4 c6 _ _ ts w6 HX2.out HX3.out hle (by omega) (by omega)).mono ?_; rintro e w7 ⟨rfl, hb⟩
  first | replace HB := Lib.hid (Below.trans HB.out (Below.mono hb (by omega))) | replace HB := Lib.hid (Below.trans HB.out (Only.below hb (by omega) (by omega)))
  clear hb
  go_wp2_with fail
  go_ret
  exact ⟨by simp, HB.out⟩
end Go.Proofs.Ytojbljaleconpaa
