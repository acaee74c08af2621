/- RequestValid, both. No condition but on sizes. -/
import Derived.Test.YtojbljaleconpaaVa
import Derived.Test.YtojbljaleconpaaTb
namespace Go.Proofs.Ytojbljaleconpaa
open Go.RowKit
/-- a request without a task and a grant, its number in bounds -/
def bareB (id : Int) (need : List Int) (gr : Bool) (num lo hi : Int) : Bool := decide (id = 0) && decide (need = []) && !gr && inB num lo hi
/-- what both RequestValid return -/
def reqB (kind id : Int) (need : List Int) (gr : Bool) (num : Int) : Bool :=
  if kind = 1 then inB id 1 40 && vecB need && decide (num = 0)
  else if kind = 2 then bareB id need gr num 1 40
  else if kind = 3 then bareB id need gr num 0 9
  else if kind = 4 then bareB id need gr num 0 9
  else if kind = 5 then bareB id need gr num 0 20
  else false
theorem alloc_belowQ (w : World) (o : Obj) : Below w.heap.size w (w.alloc o) := (Below.refl _ _).alloc (Nat.le_refl _) _
theorem len_ne {need : List Int} (h : ¬ need = []) : ((need.length : Int) == 0) = false := by
  cases need with
  | nil => exact absurd rfl h
  | cons x t => simp; omega
theorem ne_beq {a b : Int} (h : ¬ a = b) : (a == b) = false := by simpa using h
theorem bare_any (kind id num lo hi : Int) (A : Option Addr) (c : Nat) (need : List Int) (gr : Bool) (w : World) :
    Calls Try.prog 62 #[.agg #[.int .i64 kind, .int .i64 id, .slice A need.length c, .bool gr, .int .i64 num], .int .i64 lo, .int .i64 hi] w fun e w' => e = .returned (.bool (bareB id need gr num lo hi)) ∧ Below w.heap.size w w' := by
  have HBA := Lib.hid (alloc_belowQ w (.cells #[.int .i64 kind, .int .i64 id, .slice A need.length c, .bool gr, .int .i64 num] 46))
  by_cases hid : id = 0
  · subst hid
    by_cases hne : need = []
    · subst hne
      cases gr
      · obtain ⟨v, hv⟩ : ∃ v, inB num lo hi = v := ⟨_, rfl⟩
        have HV := Lib.hid hv; clear hv
        have HE : Hid (bareB 0 [] false num lo hi = v) := Lib.hid (by simp [bareB, HV.out])
        go_enter Try.func62, Try.ntmps62
        go_wp2_with fail
        refine (within_any num lo hi _).mono ?_; rintro e w' ⟨rfl, rfl⟩
        rw [HV.out]
        go_wp2_with fail
        go_ret
        exact ⟨by simp [HE.out], HBA.out⟩
      · have HE : Hid (bareB 0 [] true num lo hi = false) := Lib.hid (by simp [bareB])
        go_enter Try.func62, Try.ntmps62
        go_wp2_with fail
        go_ret
        exact ⟨by simp [HE.out], HBA.out⟩
    · have hnl := len_ne hne
      have HE : Hid (bareB 0 need gr num lo hi = false) := Lib.hid (by simp [bareB, hne])
      go_enter Try.func62, Try.ntmps62
      go_wp2_with fail
      go_ret
      exact ⟨by simp [HE.out], HBA.out⟩
  · have hib := ne_beq hid
    have HE : Hid (bareB id need gr num lo hi = false) := Lib.hid (by simp [bareB, hid])
    clear hid
    go_enter Try.func62, Try.ntmps62
    go_wp2_with fail
    go_ret
    exact ⟨by simp [HE.out], HBA.out⟩
set_option maxHeartbeats 2000000 in
theorem reqValid_any (kind id num : Int) (A : Option Addr) (c lo hi : Nat) (need : List Int) (gr : Bool) (w : World) (hI : Ints w lo hi A c need) (hl : need.length ≤ 1048576) (h1 : hi ≤ w.heap.size) :
    Calls Try.prog 33 #[.agg #[.int .i64 kind, .int .i64 id, .slice A need.length c, .bool gr, .int .i64 num]] w fun e w' => e = .returned (.bool (reqB kind id need gr num)) ∧ Below w.heap.size w w' := by
  have HBA := Lib.hid (alloc_belowQ w (.cells #[.int .i64 kind, .int .i64 id, .slice A need.length c, .bool gr, .int .i64 num] 46))
  have HI := Lib.hid (hI.below HBA.out h1)
  clear hI
  by_cases k1 : kind = 1
  · subst k1
    obtain ⟨vi, hvi⟩ : ∃ v, inB id 1 40 = v := ⟨_, rfl⟩
    obtain ⟨vv, hvv⟩ : ∃ v, vecB need = v := ⟨_, rfl⟩
    have HVI := Lib.hid hvi; clear hvi
    have HVV := Lib.hid hvv; clear hvv
    cases vi
    · have HE : Hid (reqB 1 id need gr num = false) := Lib.hid (by simp [reqB, HVI.out])
      go_enter Try.func33, Try.ntmps33
      go_wp2_with fail
      refine (idValid_any id _).mono ?_; rintro e w' ⟨rfl, rfl⟩
      rw [HVI.out]
      go_wp2_with fail
      go_ret
      exact ⟨by simp [HE.out], HBA.out⟩
    cases vv
    · have HE : Hid (reqB 1 id need gr num = false) := Lib.hid (by simp [reqB, HVV.out])
      go_enter Try.func33, Try.ntmps33
      go_wp2_with fail
      refine (idValid_any id _).mono ?_; rintro e w' ⟨rfl, rfl⟩
      rw [HVI.out]
      go_wp2_with fail
      refine (vecValid_any A c _ _ need _ HI.out hl).mono ?_; rintro e w' ⟨rfl, rfl⟩
      rw [HVV.out]
      go_wp2_with fail
      go_ret
      exact ⟨by simp [HE.out], HBA.out⟩
    by_cases hn : num = 0
    · subst hn
      have HE : Hid (reqB 1 id need gr 0 = true) := Lib.hid (by simp [reqB, HVV.out, HVI.out])
      go_enter Try.func33, Try.ntmps33
      go_wp2_with fail
      refine (idValid_any id _).mono ?_; rintro e w' ⟨rfl, rfl⟩
      rw [HVI.out]
      go_wp2_with fail
      refine (vecValid_any A c _ _ need _ HI.out hl).mono ?_; rintro e w' ⟨rfl, rfl⟩
      rw [HVV.out]
      go_wp2_with fail
      go_ret
      exact ⟨by simp [HE.out], HBA.out⟩
    · have hnb := ne_beq hn
      have HE : Hid (reqB 1 id need gr num = false) := Lib.hid (by simp [reqB, hn])
      clear hn
      go_enter Try.func33, Try.ntmps33
      go_wp2_with fail
      refine (idValid_any id _).mono ?_; rintro e w' ⟨rfl, rfl⟩
      rw [HVI.out]
      go_wp2_with fail
      refine (vecValid_any A c _ _ need _ HI.out hl).mono ?_; rintro e w' ⟨rfl, rfl⟩
      rw [HVV.out]
      go_wp2_with fail
      go_ret
      exact ⟨by simp [HE.out], HBA.out⟩
  have b1 := ne_beq k1
  by_cases k2 : kind = 2
  · subst k2
    clear k1
    have HE : Hid (reqB 2 id need gr num = bareB id need gr num 1 40) := Lib.hid (by simp [reqB])
    go_enter Try.func33, Try.ntmps33
    go_wp2_with fail
    refine (bare_any 2 id num 1 40 A c need gr _).mono ?_; rintro e w' ⟨rfl, hb⟩
    have HBB := Lib.hid (HBA.out.trans (hb.mono HBA.out.size)); clear hb
    go_wp2_with fail
    go_ret
    exact ⟨by simp [HE.out], HBB.out⟩
  have b2 := ne_beq k2
  by_cases k3 : kind = 3
  · subst k3
    clear k1 k2
    have HE : Hid (reqB 3 id need gr num = bareB id need gr num 0 9) := Lib.hid (by simp [reqB])
    go_enter Try.func33, Try.ntmps33
    go_wp2_with fail
    refine (bare_any 3 id num 0 9 A c need gr _).mono ?_; rintro e w' ⟨rfl, hb⟩
    have HBB := Lib.hid (HBA.out.trans (hb.mono HBA.out.size)); clear hb
    go_wp2_with fail
    go_ret
    exact ⟨by simp [HE.out], HBB.out⟩
  have b3 := ne_beq k3
  by_cases k4 : kind = 4
  · subst k4
    clear k1 k2 k3
    have HE : Hid (reqB 4 id need gr num = bareB id need gr num 0 9) := Lib.hid (by simp [reqB])
    go_enter Try.func33, Try.ntmps33
    go_wp2_with fail
    refine (bare_any 4 id num 0 9 A c need gr _).mono ?_; rintro e w' ⟨rfl, hb⟩
    have HBB := Lib.hid (HBA.out.trans (hb.mono HBA.out.size)); clear hb
    go_wp2_with fail
    go_ret
    exact ⟨by simp [HE.out], HBB.out⟩
  have b4 := ne_beq k4
  by_cases k5 : kind = 5
  · subst k5
    clear k1 k2 k3 k4
    have HE : Hid (reqB 5 id need gr num = bareB id need gr num 0 20) := Lib.hid (by simp [reqB])
    go_enter Try.func33, Try.ntmps33
    go_wp2_with fail
    refine (bare_any 5 id num 0 20 A c need gr _).mono ?_; rintro e w' ⟨rfl, hb⟩
    have HBB := Lib.hid (HBA.out.trans (hb.mono HBA.out.size)); clear hb
    go_wp2_with fail
    go_ret
    exact ⟨by simp [HE.out], HBB.out⟩
  have b5 := ne_beq k5
  have HE : Hid (reqB kind id need gr num = false) := Lib.hid (by simp [reqB, k1, k2, k3, k4, k5])
  clear k1 k2 k3 k4 k5
  go_enter Try.func33, Try.ntmps33
  go_wp2_with fail
  go_ret
  exact ⟨by simp [HE.out], HBA.out⟩
set_option maxHeartbeats 2000000 in
theorem reqValidS_any (kind id num : Int) (A : Option Addr) (c lo hi : Nat) (need : List Int) (gr : Bool) (w : World) (hI : Ints w lo hi A c need) (hl : need.length ≤ 1048576) (h1 : hi ≤ w.heap.size) :
    Calls Try.prog 34 #[.agg #[.int .i64 kind, .int .i64 id, .slice A need.length c, .bool gr, .int .i64 num]] w fun e w' => e = .returned (.bool (reqB kind id need gr num)) ∧ Below w.heap.size w w' := by
  have HBA := Lib.hid (alloc_belowQ w (.cells #[.int .i64 kind, .int .i64 id, .slice A need.length c, .bool gr, .int .i64 num] 46))
  have HI := Lib.hid (hI.below HBA.out h1)
  clear hI
  by_cases k1 : kind = 1
  · subst k1
    obtain ⟨vi, hvi⟩ : ∃ v, inB id 1 40 = v := ⟨_, rfl⟩
    obtain ⟨vv, hvv⟩ : ∃ v, vecB need = v := ⟨_, rfl⟩
    have HVI := Lib.hid hvi; clear hvi
    have HVV := Lib.hid hvv; clear hvv
    cases vi
    · have HE : Hid (reqB 1 id need gr num = false) := Lib.hid (by simp [reqB, HVI.out])
      go_enter Try.func34, Try.ntmps34
      go_wp2_with fail
      refine (l6In_any id 1 40 _).mono ?_; rintro e w' ⟨rfl, rfl⟩
      rw [HVI.out]
      go_wp2_with fail
      go_ret
      exact ⟨by simp [HE.out], HBA.out⟩
    cases vv
    · have HE : Hid (reqB 1 id need gr num = false) := Lib.hid (by simp [reqB, HVV.out])
      go_enter Try.func34, Try.ntmps34
      go_wp2_with fail
      refine (l6In_any id 1 40 _).mono ?_; rintro e w' ⟨rfl, rfl⟩
      rw [HVI.out]
      go_wp2_with fail
      refine (vecValidS_any A c _ _ need _ HI.out hl).mono ?_; rintro e w' ⟨rfl, rfl⟩
      rw [HVV.out]
      go_wp2_with fail
      go_ret
      exact ⟨by simp [HE.out], HBA.out⟩
    by_cases hn : num = 0
    · subst hn
      have HE : Hid (reqB 1 id need gr 0 = true) := Lib.hid (by simp [reqB, HVV.out, HVI.out])
      go_enter Try.func34, Try.ntmps34
      go_wp2_with fail
      refine (l6In_any id 1 40 _).mono ?_; rintro e w' ⟨rfl, rfl⟩
      rw [HVI.out]
      go_wp2_with fail
      refine (vecValidS_any A c _ _ need _ HI.out hl).mono ?_; rintro e w' ⟨rfl, rfl⟩
      rw [HVV.out]
      go_wp2_with fail
      go_ret
      exact ⟨by simp [HE.out], HBA.out⟩
    · have hnb := ne_beq hn
      have HE : Hid (reqB 1 id need gr num = false) := Lib.hid (by simp [reqB, hn])
      clear hn
      go_enter Try.func34, Try.ntmps34
      go_wp2_with fail
      refine (l6In_any id 1 40 _).mono ?_; rintro e w' ⟨rfl, rfl⟩
      rw [HVI.out]
      go_wp2_with fail
      refine (vecValidS_any A c _ _ need _ HI.out hl).mono ?_; rintro e w' ⟨rfl, rfl⟩
      rw [HVV.out]
      go_wp2_with fail
      go_ret
      exact ⟨by simp [HE.out], HBA.out⟩
  have b1 := ne_beq k1
  by_cases k2 : kind = 2
  · subst k2
    clear k1
    by_cases hid : id = 0
    · subst hid
      by_cases hne : need = []
      · subst hne
        cases gr
        · obtain ⟨v, hv⟩ : ∃ v, inB num 1 40 = v := ⟨_, rfl⟩
          have HV := Lib.hid hv; clear hv
          have HE : Hid (reqB 2 0 [] false num = v) := Lib.hid (by simp only [reqB]; simp [bareB, HV.out])
          go_enter Try.func34, Try.ntmps34
          go_wp2_with fail
          refine (l6In_any num 1 40 _).mono ?_; rintro e w' ⟨rfl, rfl⟩
          rw [HV.out]
          go_wp2_with fail
          go_ret
          exact ⟨by simp [HE.out], HBA.out⟩
        · have HE : Hid (reqB 2 0 [] true num = false) := Lib.hid (by simp only [reqB]; simp [bareB])
          go_enter Try.func34, Try.ntmps34
          go_wp2_with fail
          go_ret
          exact ⟨by simp [HE.out], HBA.out⟩
      · have hnl := len_ne hne
        have HE : Hid (reqB 2 0 need gr num = false) := Lib.hid (by simp only [reqB]; simp [bareB, hne])
        go_enter Try.func34, Try.ntmps34
        go_wp2_with fail
        go_ret
        exact ⟨by simp [HE.out], HBA.out⟩
    · have hib := ne_beq hid
      have HE : Hid (reqB 2 id need gr num = false) := Lib.hid (by simp only [reqB]; simp [bareB, hid])
      clear hid
      go_enter Try.func34, Try.ntmps34
      go_wp2_with fail
      go_ret
      exact ⟨by simp [HE.out], HBA.out⟩
  have b2 := ne_beq k2
  by_cases k3 : kind = 3
  · subst k3
    clear k1 k2
    by_cases hid : id = 0
    · subst hid
      by_cases hne : need = []
      · subst hne
        cases gr
        · obtain ⟨v, hv⟩ : ∃ v, inB num 0 9 = v := ⟨_, rfl⟩
          have HV := Lib.hid hv; clear hv
          have HE : Hid (reqB 3 0 [] false num = v) := Lib.hid (by simp only [reqB]; simp [bareB, HV.out])
          go_enter Try.func34, Try.ntmps34
          go_wp2_with fail
          refine (l6In_any num 0 9 _).mono ?_; rintro e w' ⟨rfl, rfl⟩
          rw [HV.out]
          go_wp2_with fail
          go_ret
          exact ⟨by simp [HE.out], HBA.out⟩
        · have HE : Hid (reqB 3 0 [] true num = false) := Lib.hid (by simp only [reqB]; simp [bareB])
          go_enter Try.func34, Try.ntmps34
          go_wp2_with fail
          go_ret
          exact ⟨by simp [HE.out], HBA.out⟩
      · have hnl := len_ne hne
        have HE : Hid (reqB 3 0 need gr num = false) := Lib.hid (by simp only [reqB]; simp [bareB, hne])
        go_enter Try.func34, Try.ntmps34
        go_wp2_with fail
        go_ret
        exact ⟨by simp [HE.out], HBA.out⟩
    · have hib := ne_beq hid
      have HE : Hid (reqB 3 id need gr num = false) := Lib.hid (by simp only [reqB]; simp [bareB, hid])
      clear hid
      go_enter Try.func34, Try.ntmps34
      go_wp2_with fail
      go_ret
      exact ⟨by simp [HE.out], HBA.out⟩
  have b3 := ne_beq k3
  by_cases k4 : kind = 4
  · subst k4
    clear k1 k2 k3
    by_cases hid : id = 0
    · subst hid
      by_cases hne : need = []
      · subst hne
        cases gr
        · obtain ⟨v, hv⟩ : ∃ v, inB num 0 9 = v := ⟨_, rfl⟩
          have HV := Lib.hid hv; clear hv
          have HE : Hid (reqB 4 0 [] false num = v) := Lib.hid (by simp only [reqB]; simp [bareB, HV.out])
          go_enter Try.func34, Try.ntmps34
          go_wp2_with fail
          refine (l6In_any num 0 9 _).mono ?_; rintro e w' ⟨rfl, rfl⟩
          rw [HV.out]
          go_wp2_with fail
          go_ret
          exact ⟨by simp [HE.out], HBA.out⟩
        · have HE : Hid (reqB 4 0 [] true num = false) := Lib.hid (by simp only [reqB]; simp [bareB])
          go_enter Try.func34, Try.ntmps34
          go_wp2_with fail
          go_ret
          exact ⟨by simp [HE.out], HBA.out⟩
      · have hnl := len_ne hne
        have HE : Hid (reqB 4 0 need gr num = false) := Lib.hid (by simp only [reqB]; simp [bareB, hne])
        go_enter Try.func34, Try.ntmps34
        go_wp2_with fail
        go_ret
        exact ⟨by simp [HE.out], HBA.out⟩
    · have hib := ne_beq hid
      have HE : Hid (reqB 4 id need gr num = false) := Lib.hid (by simp only [reqB]; simp [bareB, hid])
      clear hid
      go_enter Try.func34, Try.ntmps34
      go_wp2_with fail
      go_ret
      exact ⟨by simp [HE.out], HBA.out⟩
  have b4 := ne_beq k4
  by_cases k5 : kind = 5
  · subst k5
    clear k1 k2 k3 k4
    by_cases hid : id = 0
    · subst hid
      by_cases hne : need = []
      · subst hne
        cases gr
        · obtain ⟨v, hv⟩ : ∃ v, inB num 0 20 = v := ⟨_, rfl⟩
          have HV := Lib.hid hv; clear hv
          have HE : Hid (reqB 5 0 [] false num = v) := Lib.hid (by simp only [reqB]; simp [bareB, HV.out])
          go_enter Try.func34, Try.ntmps34
          go_wp2_with fail
          refine (l6In_any num 0 20 _).mono ?_; rintro e w' ⟨rfl, rfl⟩
          rw [HV.out]
          go_wp2_with fail
          go_ret
          exact ⟨by simp [HE.out], HBA.out⟩
        · have HE : Hid (reqB 5 0 [] true num = false) := Lib.hid (by simp only [reqB]; simp [bareB])
          go_enter Try.func34, Try.ntmps34
          go_wp2_with fail
          go_ret
          exact ⟨by simp [HE.out], HBA.out⟩
      · have hnl := len_ne hne
        have HE : Hid (reqB 5 0 need gr num = false) := Lib.hid (by simp only [reqB]; simp [bareB, hne])
        go_enter Try.func34, Try.ntmps34
        go_wp2_with fail
        go_ret
        exact ⟨by simp [HE.out], HBA.out⟩
    · have hib := ne_beq hid
      have HE : Hid (reqB 5 id need gr num = false) := Lib.hid (by simp only [reqB]; simp [bareB, hid])
      clear hid
      go_enter Try.func34, Try.ntmps34
      go_wp2_with fail
      go_ret
      exact ⟨by simp [HE.out], HBA.out⟩
  have b5 := ne_beq k5
  have HE : Hid (reqB kind id need gr num = false) := Lib.hid (by simp [reqB, k1, k2, k3, k4, k5])
  clear k1 k2 k3 k4 k5
  go_enter Try.func34, Try.ntmps34
  go_wp2_with fail
  go_ret
  exact ⟨by simp [HE.out], HBA.out⟩
end Go.Proofs.Ytojbljaleconpaa
