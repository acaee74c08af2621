/- PairsValid, the program's. No condition but on sizes. -/
import Derived.Test.YtojbljaleconpaaPp
import Derived.Test.YtojbljaleconpaaTb
namespace Go.Proofs.Ytojbljaleconpaa
open Go.RowKit
theorem pcmp_lt (q p : Int × Int) : decide (0 ≤ pcmp q p) = !(plt q p) := by
  obtain ⟨a, b⟩ := q
  obtain ⟨c, d⟩ := p
  simp only [pcmp, orI, cmpI, plt]
  by_cases h1 : a < c
  · simp [h1]
  · by_cases h2 : c < a
    · have : ¬ a = c := by omega
      simp [h1, h2, this]
    · have h3 : a = c := by omega
      subst h3
      by_cases h4 : b < d
      · simp [h4]
      · by_cases h5 : d < b
        · simp [h4, h5]
        · simp [h4, h5]
theorem inB_pair {a b : Int} (ha : inB a 1 40 = true) (hb : inB b 1 40 = true) : inB b (a + 1) 40 = decide (a < b) := by
  have h1 := inB_of ha
  have h2 := inB_of hb
  simp only [inB]
  by_cases h : a < b
  · simp [h]; omega
  · simp [h]; omega
theorem inB_pair_no {a b : Int} (ha : inB a 1 40 = true) (hb : inB b 1 40 = false) : inB b (a + 1) 40 = false := by
  have h1 := inB_of ha
  simp only [inB, decide_eq_false_iff_not] at hb ⊢
  omega
theorem cell_belowQ {B b o : Nat} {w w' : World} {v : Value} (h : Below B w w') (hq : b < B) (hc : w.cell? ⟨b, o, none⟩ = some v) : w'.cell? ⟨b, o, none⟩ = some v := (h.cell (p := ⟨b, o, none⟩) hq).trans hc
set_option maxHeartbeats 4000000 in
theorem pairsValid_any (A : Option Addr) (c lo hi : Nat) (ps : List (Int × Int)) (w : World) (hI : Pairs w lo hi A c ps) (hl : ps.length ≤ 1048576) (h1 : hi ≤ w.heap.size) :
    Calls Try.prog 29 #[.slice A ps.length c] w fun e w' => e = .returned (.bool (pairsB ps)) ∧ Below w.heap.size w w' := by
  have HI := Lib.hid hI; clear hI
  by_cases h8 : 8 < ps.length
  · have h8' : (8 : Int) < ps.length := by omega
    have HE : Hid (pairsB ps = false) := Lib.hid (by simp [pairsB]; intro _; omega)
    go_enter Try.func29, Try.ntmps29
    go_wp2_with fail
    go_ret
    exact ⟨by simp [HE.out], Below.refl _ _⟩
  have h8' : ¬ ((8 : Int) < ps.length) := by omega
  go_enter Try.func29, Try.ntmps29
  go_wp2_with fail
  go_loopw [10] (fun i wr => ∃ k : Nat, k ≤ ps.length ∧ i = .int .i64 k ∧ (List.range k).all (pairOk ps) = true ∧ Below w.heap.size w wr) (fun i _ => ps.length - (intOf i).toNat)
  case atStart => exact ⟨0, by omega, rfl, by simp, Below.refl _ _⟩
  case round =>
    obtain ⟨k, hk, rfl, hall, hbl⟩ := hrel
    have HL := Lib.hid hall; clear hall
    have HB := Lib.hid hbl; clear hbl
    have hsz := HB.out.size
    by_cases hlt : k < ps.length
    · obtain ⟨b, off, ⟨pa, pb⟩, rfl, hp, hc1, hc2, _, hb⟩ := Pairs.at_ (HI.out.below HB.out h1) hlt
      have hbw : b < wr.heap.size := by omega
      have HP := Lib.hid hp; clear hp
      have hklt : (k : Int) < ps.length := by omega
      obtain ⟨w1, hw1⟩ : ∃ W, W = wr.alloc (.cells #[.int .i64 pa, .int .i64 pb] 74) := ⟨_, rfl⟩
      have HW1 := Lib.hid hw1
      have hal : Below wr.heap.size wr w1 := by rw [hw1]; exact (Below.refl _ _).alloc (Nat.le_refl _) _
      have hx0 : w1.cell? ⟨wr.heap.size, 0, none⟩ = some (.int .i64 pa) := by rw [hw1, World.cell?_alloc_at _ _ _ _ rfl]; rfl
      have hx1 : w1.cell? ⟨wr.heap.size, 1, none⟩ = some (.int .i64 pb) := by rw [hw1, World.cell?_alloc_at _ _ _ _ rfl]; rfl
      have hs1 : wr.heap.size < w1.heap.size := by rw [hw1]; simp
      have HBA : Hid (Below w.heap.size w w1) := Lib.hid (HB.out.trans (hal.mono hsz))
      have HAL := Lib.hid hal
      clear hw1 hal
      go_wp2_with fail
      rw [← HW1.out]
      have Q1 := fun W => (idValid_any pa W).mono (R' := fun e w' => e = .returned (.bool (inB pa 1 40)) ∧ w' = W) (fun _ _ h => ⟨h.1, h.2.symm⟩)
      have Q2 := fun W => (idValid_any pb W).mono (R' := fun e w' => e = .returned (.bool (inB pb 1 40)) ∧ w' = W) (fun _ _ h => ⟨h.1, h.2.symm⟩)
      cases hin : inB pa 1 40
      · rw [hin] at Q1
        have HF := Lib.hid (pairs_false hlt (pairOk_at HP.out (by simp [hin])))
        have HQ1 := Lib.hid Q1
        clear hin Q1 Q2
        go_quiet ((go_at_call 56; exact Calls.quiet_of_same (HQ1.out _)))
        go_wp2_with fail
        go_ret
        exact ⟨by simp [HF.out], Below.drewN HBA.out _⟩
      rw [hin] at Q1
      have HQ1 := Lib.hid Q1
      have HIN := Lib.hid hin
      obtain ⟨hpa0, hpa1⟩ := inB_of hin
      clear hin Q1
      cases hin2 : inB pb 1 40
      · rw [hin2] at Q2
        have HF := Lib.hid (pairs_false hlt (pairOk_at HP.out (by rw [inB_pair_no HIN.out hin2]; simp)))
        have HQ2 := Lib.hid Q2
        clear hin2 Q2
        go_quiet ((go_at_call 56; first | with_reducible exact Calls.quiet_of_same (HQ1.out _) | with_reducible exact Calls.quiet_of_same (HQ2.out _)))
        go_wp2_with fail
        go_ret
        exact ⟨by simp [HF.out], Below.drewN HBA.out _⟩
      rw [hin2] at Q2
      have HQ2 := Lib.hid Q2
      have HIP := Lib.hid (inB_pair HIN.out hin2)
      clear hin2 Q2
      by_cases hab : pa < pb
      · have hge : decide (pb ≤ pa) = false := decide_eq_false (by omega)
        have HI2 : Hid ((inB pa 1 40 && inB pb (pa + 1) 40) = true) := Lib.hid (by rw [HIN.out, HIP.out]; simp [hab])
        cases k with
        | zero =>
          have HT := Lib.hid (range_all_succ HL.out (show pairOk ps 0 = true by rw [pairOk_zero HP.out]; exact HI2.out))
          go_quiet ((go_at_call 56; first | with_reducible exact Calls.quiet_of_same (HQ1.out _) | with_reducible exact Calls.quiet_of_same (HQ2.out _)))
          go_wp2_with fail
          exact ⟨⟨1, by omega, by rfl, HT.out, Below.drewN HBA.out _⟩, by simp [intOf]; omega⟩
        | succ j =>
          obtain ⟨b', off', ⟨qa, qb⟩, he, hq, hd1, hd2, _, _⟩ := Pairs.at_ (HI.out.below HB.out h1) (k := j) (by omega)
          simp only [Option.some.injEq, Addr.mk.injEq, and_true] at he
          obtain ⟨rfl, rfl⟩ := he
          have HQ := Lib.hid hq; clear hq
          have HPT : Hid (∀ t, plt (qa, qb) (pa, pb) = t → pairOk ps (j + 1) = t) := Lib.hid (by intro t ht; rw [pairOk_succ HP.out HQ.out, ht, HI2.out]; rfl)
          have hy1 : w1.cell? ⟨b, off + j * 2, none⟩ = some (.int .i64 qa) := (HAL.out.cell (p := ⟨b, off + j * 2, none⟩) hbw).trans hd1
          have hy2 : w1.cell? ⟨b, off + j * 2 + 1, none⟩ = some (.int .i64 qb) := (HAL.out.cell (p := ⟨b, off + j * 2 + 1, none⟩) hbw).trans hd2
          have hjl : (j : Int) < (ps.length : Int) := by omega
          have hjp : ((0 : Int) < (j : Int) + 1) := by omega
          have hjp2 : decide ((0 : Int) < (j : Int) + 1) = true := decide_eq_true hjp
          have hjk : (j : Int) + 1 < (ps.length : Int) := by omega
          have hj0 : (0 : Int) ≤ (j : Int) := by omega
          have hjw : IntKind.i64.wrap ((j : Int) + 1 - 1) = (j : Int) := by rw [IntKind.wrap_i64]; omega
          have hjw2 : IntKind.i64.wrap (j : Int) = (j : Int) := by rw [IntKind.wrap_i64]; omega
          have hq1 : b < w1.drew.heap.size := by show b < w1.heap.size; omega
          have hq2 : wr.heap.size < w1.drew.heap.size := by show wr.heap.size < w1.heap.size; omega
          have h9 := pcompare_any qa qb pa pb w1.drew
          have hpc := pcmp_lt (qa, qb) (pa, pb)
          obtain ⟨z, hz⟩ : ∃ z, pcmp (qa, qb) (pa, pb) = z := ⟨_, rfl⟩
          rw [hz] at h9 hpc
          have H9 := Lib.hid h9
          clear hd1 hd2 h9 hz
          cases hpl : plt (qa, qb) (pa, pb)
          · have HF := Lib.hid (pairs_false hlt (HPT.out false hpl))
            rw [hpl] at hpc
            have hpz : decide (0 ≤ z) = true := hpc
            have hpz2 : 0 ≤ z := of_decide_eq_true hpz
            clear hpl hpc HPT HL HP HQ HI2 HIP HIN
            go_region_held3 (fun w' => w'.cell? ⟨wr.heap.size, 0, none⟩ = some (.int .i64 pa) ∧ w'.cell? ⟨wr.heap.size, 1, none⟩ = some (.int .i64 pb) ∧ w'.cell? ⟨b, off + j * 2, none⟩ = some (.int .i64 qa) ∧ w'.cell? ⟨b, off + j * 2 + 1, none⟩ = some (.int .i64 qb))
              (go_keep)
              (first
                | (go_at_call 56; (with_reducible refine (HQ1.out _).mono ?_); rintro e w' ⟨rfl, rfl⟩)
                | (go_at_call 56; (with_reducible refine (HQ2.out _).mono ?_); rintro e w' ⟨rfl, rfl⟩)
                | (go_at_call 57; refine H9.out.mono ?_; rintro e w5 ⟨rfl, hb5⟩; have g1 := cell_belowQ hb5 hq2 hx0; have g2 := cell_belowQ hb5 hq2 hx1; have g3 := cell_belowQ hb5 hq1 hy1; have g4 := cell_belowQ hb5 hq1 hy2; have HBC := Lib.hid ((Below.drewN HBA.out 1).trans (hb5.mono (show w.heap.size ≤ w1.drew.heap.size from HBA.out.size))); clear hb5))
            go_wp2_with fail
            go_ret
            exact ⟨by simp [HF.out], HBC.out⟩
          · have HT := Lib.hid (range_all_succ HL.out (HPT.out true hpl))
            rw [hpl] at hpc
            have hpz : decide (0 ≤ z) = false := hpc
            have hpz2 : ¬ 0 ≤ z := of_decide_eq_false hpz
            clear hpl hpc HPT HL HP HQ HI2 HIP HIN
            go_region_held3 (fun w' => w'.cell? ⟨wr.heap.size, 0, none⟩ = some (.int .i64 pa) ∧ w'.cell? ⟨wr.heap.size, 1, none⟩ = some (.int .i64 pb) ∧ w'.cell? ⟨b, off + j * 2, none⟩ = some (.int .i64 qa) ∧ w'.cell? ⟨b, off + j * 2 + 1, none⟩ = some (.int .i64 qb))
              (go_keep)
              (first
                | (go_at_call 56; (with_reducible refine (HQ1.out _).mono ?_); rintro e w' ⟨rfl, rfl⟩)
                | (go_at_call 56; (with_reducible refine (HQ2.out _).mono ?_); rintro e w' ⟨rfl, rfl⟩)
                | (go_at_call 57; refine H9.out.mono ?_; rintro e w5 ⟨rfl, hb5⟩; have g1 := cell_belowQ hb5 hq2 hx0; have g2 := cell_belowQ hb5 hq2 hx1; have g3 := cell_belowQ hb5 hq1 hy1; have g4 := cell_belowQ hb5 hq1 hy2; have HBC := Lib.hid ((Below.drewN HBA.out 1).trans (hb5.mono (show w.heap.size ≤ w1.drew.heap.size from HBA.out.size))); clear hb5))
            go_wp2_with fail
            exact ⟨⟨j + 1 + 1, by omega, by go_num, HT.out, HBC.out⟩, by simp [intOf]; omega⟩
      · have hge : decide (pb ≤ pa) = true := decide_eq_true (by omega)
        have HF := Lib.hid (pairs_false hlt (pairOk_at HP.out (by rw [HIN.out, HIP.out]; simp; omega)))
        go_quiet ((go_at_call 56; first | with_reducible exact Calls.quiet_of_same (HQ1.out _) | with_reducible exact Calls.quiet_of_same (HQ2.out _)))
        go_wp2_with fail
        go_ret
        exact ⟨by simp [HF.out], Below.drewN HBA.out _⟩
    · have HT : Hid ((List.range ps.length).all (pairOk ps) = true) := by
        have := HL.out
        rwa [show k = ps.length by omega] at this
      have HE : Hid (pairsB ps = true) := Lib.hid (by simp only [pairsB, HT.out, Bool.true_and]; simp; omega)
      go_wp2_with fail
      go_ret
      exact ⟨by simp [HE.out], HB.out⟩
end Go.Proofs.Ytojbljaleconpaa
