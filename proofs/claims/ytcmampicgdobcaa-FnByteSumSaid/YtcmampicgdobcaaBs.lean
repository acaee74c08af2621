/- FnByteSum: the walk out of its generator's contract. No condition. -/
import Derived.Test.YtcmampicgdobcaaCs
import Derived.Test.YtcmampicgdobcaaVb
import Derived.Test.YtcmampicgdobcaaApp
namespace Go.Proofs.Ytcmampicgdobcaa
open Go.RowKit
theorem fold_lo (ys : List Int) (s : Int) (h : 0 ≤ s ∧ s ≤ 250) : 0 ≤ ys.foldl (fun s b => (31 * s + b) % 251) s ∧ ys.foldl (fun s b => (31 * s + b) % 251) s ≤ 250 := by
  induction ys generalizing s with
  | nil => exact h
  | cons y r ih => exact ih ((31 * s + y) % 251) (by omega)
theorem fold_ne (ys : List Int) (s t : Int) (h : 0 ≤ s ∧ s ≤ 250) (h' : 0 ≤ t ∧ t ≤ 250) (hn : s ≠ t) : ys.foldl (fun s b => (31 * s + b) % 251) s ≠ ys.foldl (fun s b => (31 * s + b) % 251) t := by
  induction ys generalizing s t with
  | nil => exact hn
  | cons y r ih => exact ih ((31 * s + y) % 251) ((31 * t + y) % 251) (by omega) (by omega) (by omega)
theorem hashL_lo (ys : List Int) : 0 ≤ hashL ys ∧ hashL ys ≤ 250 := fold_lo ys 1 (by omega)
/-- one byte more or less: another sum -/
theorem hashL_set (ys : List Int) (k : Nat) (y z : Int) (hk : k < ys.length) (hy : ys[k]? = some y) (hz : z = y + 1 ∨ z = y - 1) : hashL (ys.set k z) ≠ hashL ys := by
  have e : ys[k] = y := by rw [List.getElem?_eq_getElem hk] at hy; exact Option.some.inj hy
  have h1 : ys.set k z = ys.take k ++ z :: ys.drop (k + 1) := List.set_eq_take_append_cons_drop.trans (by rw [if_pos hk])
  have h2 : ys = ys.take k ++ y :: ys.drop (k + 1) := by rw [← e]; simp
  rw [h1]
  conv => rhs; rw [h2]
  simp only [hashL, List.foldl_append, List.foldl_cons]
  have := fold_lo (ys.take k) 1 (by omega)
  refine fold_ne _ _ _ (by omega) (by omega) ?_
  rcases hz with rfl | rfl <;> omega
theorem csum_no {ys : List Int} (h : (ys.all (fun n => inB n 0 255) && decide (ys.length ≤ 200)) = false) : csum ys = -1 := by simp only [csum, h]; rfl
theorem csum_yes {ys : List Int} (h : (ys.all (fun n => inB n 0 255) && decide (ys.length ≤ 200)) = true) : csum ys = hashL ys := by simp only [csum, h]; rfl
theorem bytes_set {ys : List Int} (h : (ys.all (fun n => inB n 0 255) && decide (ys.length ≤ 200)) = true) (k : Nat) (z : Int) (h0 : 0 ≤ z) (h1 : z ≤ 255) : ((ys.set k z).all (fun n => inB n 0 255) && decide ((ys.set k z).length ≤ 200)) = true := by
  rw [Bool.and_eq_true] at h ⊢
  refine ⟨?_, by rw [List.length_set]; exact h.2⟩
  rw [List.all_eq_true] at h ⊢
  intro n hn
  rcases List.mem_or_eq_of_mem_set hn with h9 | rfl
  · exact h.1 n h9
  · exact inB_true h0 h1
theorem byte_at {ys : List Int} (h : (ys.all (fun n => inB n 0 255) && decide (ys.length ≤ 200)) = true) {k : Nat} {y : Int} (hy : ys[k]? = some y) : 0 ≤ y ∧ y ≤ 255 := by
  rw [Bool.and_eq_true, List.all_eq_true] at h
  exact inB_of (h.1 y (List.mem_of_getElem? hy))
/-- ints in new memory -/
def GenS (w : World) (e : Ending) (w' : World) : Prop :=
  ∃ A c, ∃ zs : List Int, e = .returned (.slice A zs.length c) ∧ Ints w' w.heap.size w'.heap.size A c zs ∧ zs.length ≤ 1000 ∧ Below w.heap.size w w'
theorem clusterSum_n (A : Option Addr) (n c lo hi : Nat) (ys : List Int) (w : World) (hn : n = ys.length) (hI : Ints w lo hi A c ys) (hl : ys.length ≤ 1048576) :
    Calls Try.prog 13 #[.slice A n c] w fun e w' => e = .returned (.int .i64 (csum ys)) ∧ w = w' := by
  subst hn; exact clusterSum_any A c lo hi ys w hI hl
set_option maxHeartbeats 1000000 in
theorem FnByteSum_of (hD : ∀ (A : Option Addr) (n c : Nat) (w : World), BytesR w w.heap.size A n → n ≤ c → c ≤ maxLen → Calls Try.prog 12 #[.slice A n c] w (GenS w)) (A : Option Addr) (n c : Nat) (B : Option Addr) (m d : Nat) (w : World) (hA : BytesR w w.heap.size A n) (hc : n ≤ c) (hm : c ≤ maxLen) (_hB : BytesR w w.heap.size B m) (_hd : m ≤ d) (_hm2 : d ≤ maxLen) :
    Calls Try.prog 4 #[.slice A n c, .slice B m d] w fun e w' => e = .returned (.bool true) ∧ Below w.heap.size w w' := by
  have HA := Lib.hid hA; clear hA
  by_cases hn : 1048576 < n
  · go_enter Try.func4, Try.ntmps4
    go_wp2
    go_ret
    exact ⟨by simp, Below.refl _ _⟩
  have hnd : ¬ ((1048576 : Int) < (n : Int)) := by omega
  by_cases hmm : 1048576 < m
  · go_enter Try.func4, Try.ntmps4
    go_wp2
    go_ret
    exact ⟨by simp, Below.refl _ _⟩
  have hmd : ¬ ((1048576 : Int) < (m : Int)) := by omega
  go_enter Try.func4, Try.ntmps4
  go_wp2_with fail
  refine (hD A n c w HA.out hc hm).mono ?_; rintro e w1 ⟨A1, c1, ys, rfl, h1, hly, h2⟩
  have HB1 := Lib.hid h2
  have hs1 := h2.size
  have HX := Lib.hid (h1.mono (Nat.zero_le _) (Nat.le_refl _))
  clear h1 h2
  go_wp2_with fail
  refine (clusterSum_any _ _ _ _ ys _ HX.out (by omega)).mono ?_; rintro e w' ⟨rfl, rfl⟩
  go_wp2_with fail
  refine (clusterSumS_any _ _ _ _ ys _ HX.out (by omega)).mono ?_; rintro e w' ⟨rfl, rfl⟩
  cases hv : (ys.all (fun n => inB n 0 255) && decide (ys.length ≤ 200))
  · rw [csum_no hv]
    go_wp2_with fail
    go_ret
    exact ⟨by simp, HB1.out⟩
  have HV := Lib.hid hv
  rw [csum_yes hv]
  obtain ⟨s, hs⟩ : ∃ s, hashL ys = s := ⟨_, rfl⟩
  have hs0 := hashL_lo ys
  rw [hs] at hs0 ⊢
  obtain ⟨hs0, hs9⟩ := hs0
  have HS := Lib.hid hs
  clear hv hs
  by_cases h0 : ys.length = 0
  · have h0i : (ys.length : Int) = 0 := by omega
    go_wp2_with fail
    go_ret
    exact ⟨by simp, HB1.out⟩
  have h0i : ¬ (ys.length : Int) = 0 := by omega
  have h0p : 0 < (ys.length : Int) := by omega
  have h0b : ((ys.length : Int) == 0) = false := by simpa using h0i
  have hsn : ¬ s < 0 := by omega
  have hsd : decide (s < 0) = false := by simpa using hs0
  obtain ⟨q, hq, hql⟩ : ∃ q : Nat, (m : Int) % (ys.length : Int) = q ∧ q < ys.length := ⟨m % ys.length, by omega, Nat.mod_lt _ (by omega)⟩
  have hqt : (m : Int).tmod (ys.length : Int) = q := by rw [Int.tmod_eq_emod_of_nonneg (by omega)]; exact hq
  have hqi : (q : Int) < (ys.length : Int) := by omega
  have hown0 := ownsRow_empty w1 3 1
  have HO0 := Lib.hid hown0; clear hown0
  obtain ⟨y, hy⟩ : ∃ y, ys[q]? = some y := ⟨_, List.getElem?_eq_getElem hql⟩
  obtain ⟨hy0, hy1⟩ := byte_at HV.out hy
  go_wp2_with (at_builtin; refine wpList_appI elI rfl (.tmp 44) (.tmp 45) rfl _ HO0.out A1 ys.length c1 ys rfl rfl rfl (HX.out.below ((Below.refl _ _).alloc (Nat.le_refl _) _) (Nat.le_refl _)).r (by simp) (by omega) ?_; intro A2 c2 w4 hown2 hb2 hg2; obtain ⟨g, cap, he, hg, hgl⟩ := hown2.form (by omega); simp only [Value.slice.injEq] at he; obtain ⟨rfl, _, rfl⟩ := he; obtain ⟨u, hu, hc0, hf0⟩ := own_at (cs := ys) (k := q) hown2 (by omega); obtain rfl : y = u := Option.some.inj (hy.symm.trans hu))
  · have h9 : y = 255 := by simpa using ‹(y == 255) = true›
    have hne := hashL_set ys q y 254 hql hy (.inr (by omega))
    rw [HS.out] at hne
    have hvs := csum_yes (bytes_set HV.out q 254 (by omega) (by omega))
    obtain ⟨u, hu'⟩ : ∃ u, hashL (ys.set q 254) = u := ⟨_, rfl⟩
    rw [hu'] at hne hvs
    have HU := Lib.hid hvs
    have hb3 : Below w1.heap.size w1 w4 := ((Below.refl _ _).alloc (Nat.le_refl _) _).trans hb2
    have HOS := Lib.hid (own_set (cs := ys) hown2 q 254)
    obtain ⟨A9, c9, he, hl9, hI9⟩ := Ints.of_own HOS.out
    simp only [Value.slice.injEq] at he
    obtain ⟨rfl, _, rfl⟩ := he
    have HI9 := Lib.hid hI9
    have HBA : Hid (Below w1.heap.size w1 (w4.setCell ⟨g, q, none⟩ (.int .i64 254))) := Lib.hid (hb3.setCell (p := ⟨g, q, none⟩) hg _)
    clear hI9 hown2 hg2 hb2 hc0 hf0 hb3 hvs hu' h9
    refine (clusterSum_n _ ys.length _ _ _ (ys.set q 254) _ (by simp) HI9.out (by simp; omega)).mono ?_; rintro e w5 ⟨rfl, rfl⟩
    rw [HU.out]
    go_wp2_with fail
    go_ret
    exact ⟨by simp [hne], HB1.out.trans (HBA.out.mono HB1.out.size)⟩
  · have h9 : ¬ y = 255 := by simpa using ‹(y == 255) = false›
    have hne := hashL_set ys q y (y + 1) hql hy (.inl rfl)
    rw [HS.out] at hne
    have hvs := csum_yes (bytes_set HV.out q (y + 1) (by omega) (by omega))
    obtain ⟨u, hu'⟩ : ∃ u, hashL (ys.set q (y + 1)) = u := ⟨_, rfl⟩
    rw [hu'] at hne hvs
    have HU := Lib.hid hvs
    have hb3 : Below w1.heap.size w1 w4 := ((Below.refl _ _).alloc (Nat.le_refl _) _).trans hb2
    have HOS := Lib.hid (own_set (cs := ys) hown2 q (y + 1))
    obtain ⟨A9, c9, he, hl9, hI9⟩ := Ints.of_own HOS.out
    simp only [Value.slice.injEq] at he
    obtain ⟨rfl, _, rfl⟩ := he
    have HI9 := Lib.hid hI9
    have HBA : Hid (Below w1.heap.size w1 (w4.setCell ⟨g, q, none⟩ (.int .i64 (y + 1)))) := Lib.hid (hb3.setCell (p := ⟨g, q, none⟩) hg _)
    clear hI9 hown2 hg2 hb2 hc0 hf0 hb3 hvs hu' h9
    refine (clusterSum_n _ ys.length _ _ _ (ys.set q (y + 1)) _ (by simp) HI9.out (by simp; omega)).mono ?_; rintro e w5 ⟨rfl, rfl⟩
    rw [HU.out]
    go_wp2_with fail
    go_ret
    exact ⟨by simp [hne], HB1.out.trans (HBA.out.mono HB1.out.size)⟩
end Go.Proofs.Ytcmampicgdobcaa
