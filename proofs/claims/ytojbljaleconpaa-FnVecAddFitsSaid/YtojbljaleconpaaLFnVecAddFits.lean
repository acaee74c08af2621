/- The walk of one statement: by the contracts of what it calls it returns true and changes nothing that was there. No condition. -/
import Derived.Test.YtojbljaleconpaaDd
import Derived.Test.YtojbljaleconpaaPw
namespace Go.Proofs.Ytojbljaleconpaa
open Go.RowKit
theorem vecAdd_n (A : Option Addr) (n c lo hi : Nat) (a : List Int) (B : Option Addr) (m d lo' hi' : Nat) (b : List Int) (w : World) (hn : n = a.length) (hm : m = b.length) (hA : Ints w lo hi A c a) (hB : Ints w lo' hi' B d b) (ha : a.length ≤ 1048576) (hb : b.length ≤ 1048576) (h1 : hi ≤ w.heap.size) (h2 : hi' ≤ w.heap.size) :
    Calls Try.prog 14 #[.slice A n c, .slice B m d] w (RetIB w (vaddR a b)) := by
  subst hn; subst hm; exact vecAdd_any _ _ _ _ _ _ _ _ a b w hA hB ha hb h1 h2
def AddFits (za zb cs : List Int) : Prop := vaddR za cs = (addL za cs 1, true) ∧ vfitsB (addL za cs 1) (addL za zb 1) = true ∧ (addL za cs 1).length ≤ 3
theorem addfits_of {a b c a' b' c' p q r : Int} (ha : vecB [a, b, c] = true) (hc : vecB [p, q, r] = true) (hs : vecB (addL [a, b, c] [a', b', c'] 1) = true) (h1 : p ≤ a') (h2 : q ≤ b') (h3 : r ≤ c') : AddFits [a, b, c] [a', b', c'] [p, q, r] := by
  have k0 := vec_form ha
  have k1 := vec_form hc
  have k2 := vec_form hs
  simp only [addL_form] at *
  obtain ⟨_, _, _, e0, b0⟩ := k0
  obtain ⟨_, _, _, e1, b1⟩ := k1
  obtain ⟨_, _, _, e2, b2⟩ := k2
  simp only [List.cons.injEq, and_true] at e0 e1 e2
  have hv : vecB [a + 1 * p, b + 1 * q, c + 1 * r] = true := vec_mk (by omega)
  refine ⟨?_, ?_, by simp [addL_form]⟩
  · simp only [vaddR, addL_form, ha, hc, hv, Bool.and_self, if_true]
  · simp only [vfitsB, addL_form, hv, hs, Bool.true_and]
    rw [fits_form]; omega
theorem addfits_same {za zb : List Int} (ha : vecB za = true) (hb : vecB zb = true) (hs : vecB (addL za zb 1) = true) : AddFits za zb zb := by
  obtain ⟨a, b, c, rfl, _⟩ := vec_form ha
  obtain ⟨a', b', c', rfl, _⟩ := vec_form hb
  exact addfits_of ha hb hs (Int.le_refl _) (Int.le_refl _) (Int.le_refl _)
theorem addfits_less {za zb : List Int} {q : Nat} {u : Int} (ha : vecB za = true) (hb : vecB zb = true) (hs : vecB (addL za zb 1) = true) (hu : zb[q]? = some u) (hp : 0 < u) : AddFits za zb (zb.set q (u - 1)) := by
  obtain ⟨a, b, c, rfl, _⟩ := vec_form ha
  obtain ⟨a', b', c', rfl, hb'⟩ := vec_form hb
  have hq : q < 3 := by have := (List.getElem?_eq_some_iff.1 hu).1; simpa using this
  match q, hq with
  | 0, _ => simp at hu; subst hu; exact addfits_of ha (vec_mk (by omega)) hs (by omega) (by omega) (by omega)
  | 1, _ => simp at hu; subst hu; exact addfits_of ha (vec_mk (by omega)) hs (by omega) (by omega) (by omega)
  | 2, _ => simp at hu; subst hu; exact addfits_of ha (vec_mk (by omega)) hs (by omega) (by omega) (by omega)
theorem FnVecAddFits_walk (A : Option Addr) (n c : Nat) (B : Option Addr) (m d : Nat) (w : World) (hA : BytesR w w.heap.size A n) (hc : n ≤ c) (hm : c ≤ maxLen) (_hB : BytesR w w.heap.size B m) (_hd : m ≤ d) (_hm2 : d ≤ maxLen) :
    Calls Try.prog 3 #[.slice A n c, .slice B m d] w fun e w' => e = .returned (.bool true) ∧ Below w.heap.size w w' := by
  have HA := Lib.hid hA; clear hA
  by_cases hn : 1048576 < n
  · go_enter Try.func3, Try.ntmps3
    go_wp2
    go_ret
    exact ⟨by simp, Below.refl _ _⟩
  have hnd : ¬ ((1048576 : Int) < (n : Int)) := by omega
  by_cases hmm : 1048576 < m
  · go_enter Try.func3, Try.ntmps3
    go_wp2
    go_ret
    exact ⟨by simp, Below.refl _ _⟩
  have hmd : ¬ ((1048576 : Int) < (m : Int)) := by omega
  go_enter Try.func3, Try.ntmps3
  have HB := Lib.hid (Below.refl w.heap.size w)
  go_wp2_with fail
  refine (DrawVecAdd_any A n c w HA.out hc hm).mono ?_; rintro e w1 ⟨A1, c1, za, B1, d1, zb, rfl, h1, hlza, hzza, h4, hlzb, hzzb, h7⟩
  have HS := Lib.hid (h7)
  replace HB := Lib.hid (Below.step HB.out HS.out)
  clear HS
  have HX := Lib.hid (h1.mono (Nat.zero_le _) (Nat.le_refl _))
  have HY := Lib.hid (h4.mono (Nat.zero_le _) (Nat.le_refl _))
  clear h1 h4 h7 hzza hzzb
  go_wp2_with fail
  refine (vecAdd_any _ _ _ _ _ _ _ _ za zb _ HX.out HY.out (by omega) (by omega) (Nat.le_refl _) (Nat.le_refl _)).mono ?_; rintro e w2 ⟨A2, c2, rfl, hI, hb⟩
  have HS := Lib.hid (hb)
  replace HX := Lib.hid (HX.out.step HS.out)
  replace HY := Lib.hid (HY.out.step HS.out)
  replace HB := Lib.hid (Below.step HB.out HS.out)
  clear HS
  have HM := Lib.hid (hI.mono (Nat.zero_le _) (Nat.le_refl _))
  clear hI hb
  go_wp2_with fail
  refine (vecAddS_any _ _ _ _ _ _ _ _ za zb _ HX.out HY.out (by omega) (by omega) (Nat.le_refl _) (Nat.le_refl _)).mono ?_; rintro e w3 ⟨A3, c3, rfl, hI, hb⟩
  have HS := Lib.hid (hb)
  replace HX := Lib.hid (HX.out.step HS.out)
  replace HY := Lib.hid (HY.out.step HS.out)
  replace HM := Lib.hid (HM.out.step HS.out)
  replace HB := Lib.hid (Below.step HB.out HS.out)
  clear HS
  have HN := Lib.hid (hI.mono (Nat.zero_le _) (Nat.le_refl _))
  clear hI hb
  have hlr : (vaddR za zb).1.length ≤ 3 := vadd_len za zb
  go_wp2_with fail
  refine (sameInts_eq _ _ _ _ _ _ _ _ (vaddR za zb).1 _ HM.out HN.out (by omega)).mono ?_; rintro e w4 ⟨rfl, hd⟩
  have HS := Lib.hid (drawn_below hd)
  replace HX := Lib.hid (HX.out.step HS.out)
  replace HY := Lib.hid (HY.out.step HS.out)
  replace HM := Lib.hid (HM.out.step HS.out)
  replace HN := Lib.hid (HN.out.step HS.out)
  replace HB := Lib.hid (Below.step HB.out HS.out)
  clear HS
  clear hd
  cases hv : (vaddR za zb).2
  · have HV := Lib.hid hv
    go_wp2_with fail
    refine (sameInts_eq _ _ _ _ _ _ _ _ (vaddR za zb).1 _ HM.out HN.out (by omega)).mono ?_; rintro e w5 ⟨rfl, hd⟩
    have HS := Lib.hid (drawn_below hd)
    replace HX := Lib.hid (HX.out.step HS.out)
    replace HY := Lib.hid (HY.out.step HS.out)
    replace HM := Lib.hid (HM.out.step HS.out)
    replace HN := Lib.hid (HN.out.step HS.out)
    replace HB := Lib.hid (Below.step HB.out HS.out)
    clear HS
    clear hd
    go_wp2_with fail
    go_ret
    exact ⟨by simp, HB.out⟩
  · obtain ⟨hva, hvb, hvs, he⟩ := vadd_yes hv
    rw [he] at HM HN ⊢
    obtain ⟨q, hq, hq3⟩ : ∃ q : Nat, (m : Int) % 3 = q ∧ q < 3 := ⟨m % 3, by omega, by omega⟩
    have hls : (addL za zb 1).length ≤ 1048576 := by rw [vec_len hvs]; omega
    have hlb3 := vec_len hvb
    have HVA := Lib.hid hva
    have HVB := Lib.hid hvb
    have HVS := Lib.hid hvs
    have HO0 := Lib.hid (ownsRow_empty w4 3 1)
    have hq3' : (q : Int) < 3 := by omega
    have HL3 := Lib.hid hlb3
    have hl0 : zb.length ≤ 1000 := by omega
    have hqb : q < zb.length := by omega
    have hqb' : (q : Int) < zb.length := by omega
    clear hv hva hvb hvs he hlr hlb3
    go_wp2_with (at_builtin; refine wpList_appI elI rfl (.tmp 64) (.tmp 65) rfl _ HO0.out B1 zb.length d1 zb rfl rfl rfl ((HY.out.step ((Below.refl _ _).alloc (Nat.le_refl _) _)).r) (by simp) (by omega) ?_; intro A8 c8 w8 hown2 hb2 hg2; obtain ⟨g, cap, he, hg, hgl⟩ := hown2.form (by omega); simp only [Value.slice.injEq] at he; obtain ⟨rfl, _, rfl⟩ := he; have HOW := Lib.hid hown2; have HB2 := Lib.hid hb2; clear hown2 hb2 hg2; obtain ⟨u, hu, hc0, hf0⟩ := own_at (cs := zb) (k := q) (by simpa using HOW.out) (by omega); have hub := vec_at HVB.out hu; have HU := Lib.hid hu; clear hu; by_cases hup : 0 < u)
    · obtain ⟨w9, cs, hw, hcl, hI9, hbA, hP⟩ : ∃ w9, ∃ cs : List Int, w9 = w8.setCell ⟨g, q, none⟩ (.int .i64 (u - 1)) ∧ cs.length = zb.length ∧ Ints w9 0 w9.heap.size (some ⟨g, 0, none⟩) c8 cs ∧ Below w4.heap.size w4 w9 ∧ AddFits za zb cs := by
        refine ⟨_, zb.set q (u - 1), rfl, by simp, ?_, (((Below.refl _ _).alloc (Nat.le_refl _) _).trans HB2.out).setCell (p := ⟨g, q, none⟩) hg _, addfits_less HVA.out HVB.out HVS.out HU.out hup⟩
        obtain ⟨A9, c9, he, hl9, hI9⟩ := Ints.of_own (own_set (cs := zb) (by simpa using HOW.out) q (u - 1))
        simp only [Value.slice.injEq] at he
        obtain ⟨rfl, _, rfl⟩ := he
        exact hI9.mono (Nat.zero_le _) (Nat.le_refl _)
      rw [← hw]
      clear hw hc0 hf0 hup HU
      obtain ⟨hp1, hp2, hp3⟩ := hP
      have HP1 := Lib.hid hp1
      have HP2 := Lib.hid hp2
      have HS := Lib.hid hbA
      have HI9 := Lib.hid hI9
      have HCL := Lib.hid hcl
      clear hp1 hp2 hbA hI9 hcl
      refine (vecAdd_n A1 za.length c1 0 _ za (some ⟨g, 0, none⟩) zb.length c8 0 _ cs _ rfl HCL.out.symm (HX.out.step HS.out) HI9.out (by omega) (by rw [HCL.out]; omega) (Nat.le_refl _) (Nat.le_refl _)).mono ?_; rintro e w10 ⟨A10, c10, rfl, hI, hb⟩
      have HR := Lib.hid hI
      have HT := Lib.hid hb
      clear hI hb
      rw [HP1.out] at HR ⊢
      go_wp2_with fail
      refine (vecFits_any _ _ _ _ _ _ _ _ (addL za cs 1) (addL za zb 1) _ (HR.out.mono (Nat.zero_le _) (Nat.le_refl _)) ((HM.out.step HS.out).step HT.out) (by omega) hls).mono ?_; rintro e w' ⟨rfl, rfl⟩
      rw [HP2.out]
      go_wp2_with fail
      go_ret
      exact ⟨by simp, Below.step (Below.step HB.out HS.out) HT.out⟩
    · obtain ⟨w9, cs, hw, hcl, hI9, hbA, hP⟩ : ∃ w9, ∃ cs : List Int, w9 = w8 ∧ cs.length = zb.length ∧ Ints w9 0 w9.heap.size (some ⟨g, 0, none⟩) c8 cs ∧ Below w4.heap.size w4 w9 ∧ AddFits za zb cs := by
        refine ⟨_, zb, rfl, rfl, ?_, ((Below.refl _ _).alloc (Nat.le_refl _) _).trans HB2.out, addfits_same HVA.out HVB.out HVS.out⟩
        obtain ⟨A9, c9, he, hl9, hI9⟩ := Ints.of_own (ys := zb) (by simpa using HOW.out)
        simp only [Value.slice.injEq] at he
        obtain ⟨rfl, _, rfl⟩ := he
        exact hI9.mono (Nat.zero_le _) (Nat.le_refl _)
      subst hw
      clear hc0 hf0 hup HU
      obtain ⟨hp1, hp2, hp3⟩ := hP
      have HP1 := Lib.hid hp1
      have HP2 := Lib.hid hp2
      have HS := Lib.hid hbA
      have HI9 := Lib.hid hI9
      have HCL := Lib.hid hcl
      clear hp1 hp2 hbA hI9 hcl
      refine (vecAdd_n A1 za.length c1 0 _ za (some ⟨g, 0, none⟩) zb.length c8 0 _ cs _ rfl HCL.out.symm (HX.out.step HS.out) HI9.out (by omega) (by rw [HCL.out]; omega) (Nat.le_refl _) (Nat.le_refl _)).mono ?_; rintro e w10 ⟨A10, c10, rfl, hI, hb⟩
      have HR := Lib.hid hI
      have HT := Lib.hid hb
      clear hI hb
      rw [HP1.out] at HR ⊢
      go_wp2_with fail
      refine (vecFits_any _ _ _ _ _ _ _ _ (addL za cs 1) (addL za zb 1) _ (HR.out.mono (Nat.zero_le _) (Nat.le_refl _)) ((HM.out.step HS.out).step HT.out) (by omega) hls).mono ?_; rintro e w' ⟨rfl, rfl⟩
      rw [HP2.out]
      go_wp2_with fail
      go_ret
      exact ⟨by simp, Below.step (Below.step HB.out HS.out) HT.out⟩

end Go.Proofs.Ytojbljaleconpaa
