/- The walk of one statement: by the contracts of what it calls it returns true and changes nothing that was there. No condition. -/
import Derived.Test.YthnpekmohbpncaaDd
import Derived.Test.YthnpekmohbpncaaPv
namespace Go.Proofs.Ythnpekmohbpncaa
open Go.RowKit
theorem vecB_neg (x y z : Int) (q : Nat) (hq : q < 3) : vecB ([x, y, z].set q (-1)) = false := by
  match q, hq with
  | 0, _ => simp [vecB, inB]
  | 1, _ => simp [vecB, inB]
  | 2, _ => simp [vecB, inB]
theorem vecValid_n (A : Option Addr) (n c lo hi : Nat) (ys : List Int) (w : World) (hn : n = ys.length) (hI : Ints w lo hi A c ys) (hl : ys.length ≤ 1048576) :
    Calls Try.prog 17 #[.slice A n c] w fun e w' => e = .returned (.bool (vecB ys)) ∧ w = w' := by
  subst hn; exact vecValid_any A c lo hi ys w hI hl
theorem FnVecPart_walk (A : Option Addr) (n c : Nat) (B : Option Addr) (m d : Nat) (w : World) (hA : BytesR w w.heap.size A n) (hc : n ≤ c) (hm : c ≤ maxLen) (_hB : BytesR w w.heap.size B m) (_hd : m ≤ d) (_hm2 : d ≤ maxLen) :
    Calls Try.prog 4 #[.slice A n c, .slice B m d] w fun e w' => e = .returned (.bool true) ∧ Below w.heap.size w w' := by
  have HA := Lib.hid hA; clear hA
  by_cases hn : 1048576 < n
  · go_enter Try.func4, Try.ntmps4
    go_wp2
    go_ret
    exact ⟨by simp, Below.refl _ _⟩
  have hnd : ¬ ((1048576 : Int) < (n : Int)) := by omega
  by_cases hmm : 1048576 < m
  · go_enter Try.func4, Try.ntmps4
    go_wp2
    go_ret
    exact ⟨by simp, Below.refl _ _⟩
  have hmd : ¬ ((1048576 : Int) < (m : Int)) := by omega
  go_enter Try.func4, Try.ntmps4
  have HB := Lib.hid (Below.refl w.heap.size w)
  go_wp2_with fail
  refine (DrawVecValid_any A n c w HA.out hc hm).mono ?_; rintro e w1 ⟨A1, c1, za, rfl, h1, hlza, hzza, h2⟩
  have HS := Lib.hid (h2)
  replace HB := Lib.hid (Below.step HB.out HS.out)
  clear HS
  have HX := Lib.hid (h1.mono (Nat.zero_le _) (Nat.le_refl _))
  have HZza := Lib.hid hzza
  clear h1 h2 hzza
  go_wp2_with fail
  refine (vecValid_any _ _ _ _ za _ HX.out (by omega)).mono ?_; rintro e w' ⟨rfl, rfl⟩
  go_wp2_with fail
  refine (vecValidS_any _ _ _ _ za _ HX.out (by omega)).mono ?_; rintro e w' ⟨rfl, rfl⟩
  cases hv : vecB za
  · go_wp2_with fail
    go_ret
    exact ⟨by simp, HB.out⟩
  · obtain ⟨x, y, z, rfl, hb⟩ := vec_form hv
    obtain ⟨q, hq, hq3⟩ : ∃ q : Nat, (m : Int) % 3 = q ∧ q < 3 := ⟨m % 3, by omega, by omega⟩
    have hc3 : 3 ≤ c1 := HX.out.1
    have HNV := Lib.hid (vecB_neg x y z q hq3)
    clear hv hb hlza HZza
    have hown0 := ownsRow_empty w1 3 1
    have HO0 := Lib.hid hown0; clear hown0
    have hq3' : (q : Int) < 3 := by omega
    go_wp2_with (at_builtin; refine wpList_appI elI rfl (.tmp 33) (.tmp 34) rfl _ HO0.out A1 3 c1 [x, y, z] rfl rfl rfl ((HX.out.step ((Below.refl _ _).alloc (Nat.le_refl _) _)).r) (by simp) (by omega) ?_; intro A2 c2 w2 hown2 hb2 hg2; obtain ⟨g, cap, he, hg, hgl⟩ := hown2.form (by omega); simp only [Value.slice.injEq] at he; obtain ⟨rfl, _, rfl⟩ := he; obtain ⟨u, _, hc0, hf0⟩ := own_at (cs := [x, y, z]) (k := q) hown2 (by omega))

    have hbA : Below w1.heap.size w1 (w2.setCell ⟨g, q, none⟩ (.int .i64 (-1))) := (((Below.refl _ _).alloc (Nat.le_refl _) _).trans hb2).setCell (p := ⟨g, q, none⟩) hg _
    have HOS := Lib.hid (own_set (cs := [x, y, z]) hown2 q (-1))
    obtain ⟨A9, c9, he, hl9, hI9⟩ := Ints.of_own HOS.out
    simp only [Value.slice.injEq] at he
    obtain ⟨rfl, _, rfl⟩ := he
    have HI9 := Lib.hid hI9
    have HBA := Lib.hid hbA
    clear hI9 hbA hown2 hg2 hb2 hc0 hf0
    refine (vecValid_n A1 2 c1 0 _ [x, y] _ rfl (((HX.out.take 2).below HBA.out (Nat.le_refl _))) (by simp)).mono ?_; rintro e w' ⟨rfl, rfl⟩
    rw [show vecB [x, y] = false from by simp [vecB]]
    go_wp2_with fail
    refine (vecValid_n _ 3 _ _ _ ([x, y, z].set q (-1)) _ (by simp) HI9.out (by simp)).mono ?_; rintro e w' ⟨rfl, rfl⟩
    rw [HNV.out]
    go_wp2_with fail
    go_ret
    exact ⟨by simp, HB.out.trans (HBA.out.mono HB.out.size)⟩
end Go.Proofs.Ythnpekmohbpncaa
