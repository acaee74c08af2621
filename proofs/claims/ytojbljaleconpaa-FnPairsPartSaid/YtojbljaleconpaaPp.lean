/- PairsValid, the reference's. No condition but on sizes. -/
import Derived.Test.YtojbljaleconpaaPr
import Derived.Test.YtojbljaleconpaaVa
namespace Go.Proofs.Ytojbljaleconpaa
open Go.RowKit
def plt (p q : Int × Int) : Bool := decide (p.1 < q.1 ∨ (p.1 = q.1 ∧ p.2 < q.2))
theorem nat_le_lit (n m : Nat) : decide ((n : Int) ≤ (m : Int)) = decide (n ≤ m) := by
  rw [Bool.eq_iff_iff]; simp
/-- the pair at a place is in order -/
def pairOk (ps : List (Int × Int)) (k : Nat) : Bool :=
  match ps[k]? with
  | none => true
  | some p => inB p.1 1 40 && inB p.2 (p.1 + 1) 40 && (match k with | 0 => true | j + 1 => match ps[j]? with | none => true | some q => plt q p)
/-- what both PairsValid return -/
def pairsB (ps : List (Int × Int)) : Bool := (List.range ps.length).all (pairOk ps) && decide (ps.length ≤ 8)
theorem pairs_false {ps : List (Int × Int)} {k : Nat} (hk : k < ps.length) (h : pairOk ps k = false) : pairsB ps = false := by
  have : (List.range ps.length).all (pairOk ps) = false := by
    rw [List.all_eq_false]; exact ⟨k, List.mem_range.2 hk, by simp [h]⟩
  simp [pairsB, this]
theorem range_all_succ {p : Nat → Bool} {k : Nat} (h : (List.range k).all p = true) (hk : p k = true) : (List.range (k + 1)).all p = true := by
  rw [List.range_succ, List.all_append, h]; simp [hk]
theorem pairOk_zero {ps : List (Int × Int)} {p : Int × Int} (h : ps[0]? = some p) : pairOk ps 0 = (inB p.1 1 40 && inB p.2 (p.1 + 1) 40) := by simp [pairOk, h]
theorem pairOk_succ {ps : List (Int × Int)} {j : Nat} {p q : Int × Int} (h : ps[j + 1]? = some p) (h' : ps[j]? = some q) : pairOk ps (j + 1) = (inB p.1 1 40 && inB p.2 (p.1 + 1) 40 && plt q p) := by simp [pairOk, h, h']
theorem pairOk_at {ps : List (Int × Int)} {k : Nat} {p : Int × Int} (h : ps[k]? = some p) (hf : (inB p.1 1 40 && inB p.2 (p.1 + 1) 40) = false) : pairOk ps k = false := by simp only [pairOk, h, hf, Bool.false_and]
set_option maxHeartbeats 4000000 in
theorem pairsValidS_any (A : Option Addr) (c lo hi : Nat) (ps : List (Int × Int)) (w : World) (hI : Pairs w lo hi A c ps) (hl : ps.length ≤ 1048576) (h1 : hi ≤ w.heap.size) :
    Calls Try.prog 27 #[.slice A ps.length c] w fun e w' => e = .returned (.bool (pairsB ps)) ∧ Below w.heap.size w w' := by
  have HI := Lib.hid hI; clear hI
  go_enter Try.func27, Try.ntmps27
  go_wp2_with fail
  go_loopw [3] (fun i wr => ∃ k : Nat, k ≤ ps.length ∧ i = .int .i64 k ∧ (List.range k).all (pairOk ps) = true ∧ Below w.heap.size w wr) (fun i _ => ps.length - (intOf i).toNat)
  case atStart => exact ⟨0, by omega, rfl, by simp, Below.refl _ _⟩
  case round =>
    obtain ⟨k, hk, rfl, hall, hbl⟩ := hrel
    have HL := Lib.hid hall; clear hall
    have HB := Lib.hid hbl; clear hbl
    have hsz := HB.out.size
    by_cases hlt : k < ps.length
    · obtain ⟨b, off, ⟨pa, pb⟩, rfl, hp, hc1, hc2, _, hb⟩ := Pairs.at_ (HI.out.below HB.out h1) hlt
      have hbw : b < wr.heap.size := by omega
      have HP := Lib.hid hp; clear hp
      have HBA : Hid (Below w.heap.size w (wr.alloc (.cells #[.int .i64 pa, .int .i64 pb] 74))) := Lib.hid (HB.out.alloc hsz _)
      have hpw : ∀ (h : inB pa 1 40 = true), IntKind.i64.wrap (pa + 1) = pa + 1 := fun h => by have := inB_of h; rw [IntKind.wrap_i64]; omega
      have HPW := Lib.hid hpw; clear hpw
      have hklt : (k : Int) < ps.length := by omega
      cases hin : inB pa 1 40
      · have HIN := Lib.hid hin
        have HF := Lib.hid (pairs_false hlt (pairOk_at HP.out (by simp [hin])))
        clear hin
        go_wp2_with fail
        refine (l6In_any pa 1 40 _).mono ?_; rintro e w' ⟨rfl, rfl⟩; rw [HIN.out]
        go_wp2_with fail
        go_ret
        exact ⟨by simp [HF.out], HBA.out⟩
      · obtain ⟨hpa0, hpa1⟩ := inB_of hin
        have HIN := Lib.hid hin
        have hpa := HPW.out hin
        clear hin
        cases hin2 : inB pb (pa + 1) 40
        · have HIN2 := Lib.hid hin2
          have HF := Lib.hid (pairs_false hlt (pairOk_at HP.out (by simp [hin2])))
          clear hin2
          go_wp2_with fail
          refine (l6In_any pa 1 40 _).mono ?_; rintro e w' ⟨rfl, rfl⟩; rw [HIN.out]
          go_wp2_with fail
          refine (l6In_any pb (pa + 1) 40 _).mono ?_; rintro e w' ⟨rfl, rfl⟩; rw [HIN2.out]
          go_wp2_with fail
          go_ret
          exact ⟨by simp [HF.out], HBA.out⟩
        · have HIN2 := Lib.hid hin2
          clear hin2
          cases k with
          | zero =>
            simp only [Nat.zero_mul, Nat.add_zero] at hc1 hc2
            have HT := Lib.hid (range_all_succ HL.out (show pairOk ps 0 = true by rw [pairOk_zero HP.out, HIN.out, HIN2.out]; rfl))
            go_wp2_with fail
            refine (l6In_any pa 1 40 _).mono ?_; rintro e w' ⟨rfl, rfl⟩; rw [HIN.out]
            go_wp2_with fail
            refine (l6In_any pb (pa + 1) 40 _).mono ?_; rintro e w' ⟨rfl, rfl⟩; rw [HIN2.out]
            go_wp2_with fail
            go_quiet (fail)
            go_wp2_with fail
            exact ⟨⟨1, by omega, by rfl, HT.out, Below.drewN HBA.out _⟩, by simp [intOf]; omega⟩
          | succ j =>
            obtain ⟨b', off', ⟨qa, qb⟩, he, hq, hd1, hd2, _, _⟩ := Pairs.at_ (HI.out.below HB.out h1) (k := j) (by omega)
            simp only [Option.some.injEq, Addr.mk.injEq, and_true] at he
            obtain ⟨rfl, rfl⟩ := he
            have HQ := Lib.hid hq; clear hq
            have HO := Lib.hid (pairOk_succ HP.out HQ.out)
            have hjl : (j : Int) < (ps.length : Int) := by omega
            have hjp : ((0 : Int) < (j : Int) + 1) := by omega
            have hjk : (j : Int) + 1 < (ps.length : Int) := by omega
            have hj0 : (0 : Int) ≤ (j : Int) := by omega
            have hjw : IntKind.i64.wrap ((j : Int) + 1 - 1) = (j : Int) := by rw [IntKind.wrap_i64]; omega
            have hjw2 : IntKind.i64.wrap (j : Int) = (j : Int) := by rw [IntKind.wrap_i64]; omega
            obtain ⟨w1, hw1⟩ : ∃ W, W = wr.alloc (.cells #[.int .i64 pa, .int .i64 pb] 74) := ⟨_, rfl⟩
            have HW1 := Lib.hid hw1
            have hal : Below wr.heap.size wr w1 := by rw [hw1]; exact (Below.refl _ _).alloc (Nat.le_refl _) _
            have hx0 : w1.cell? ⟨wr.heap.size, 0, none⟩ = some (.int .i64 pa) := by rw [hw1, World.cell?_alloc_at _ _ _ _ rfl]; rfl
            have hx1 : w1.cell? ⟨wr.heap.size, 1, none⟩ = some (.int .i64 pb) := by rw [hw1, World.cell?_alloc_at _ _ _ _ rfl]; rfl
            have hy1 : w1.cell? ⟨b, off + j * 2, none⟩ = some (.int .i64 qa) := (hal.cell (p := ⟨b, off + j * 2, none⟩) hbw).trans hd1
            have hy2 : w1.cell? ⟨b, off + j * 2 + 1, none⟩ = some (.int .i64 qb) := (hal.cell (p := ⟨b, off + j * 2 + 1, none⟩) hbw).trans hd2
            replace HBA : Hid (Below w.heap.size w w1) := Lib.hid (by rw [hw1]; exact HBA.out)
            clear hw1 hal hd1 hd2
            have HPT : Hid (∀ t, plt (qa, qb) (pa, pb) = t → pairOk ps (j + 1) = t) := Lib.hid (by intro t ht; rw [HO.out, ht, HIN.out, HIN2.out]; rfl)
            by_cases h1 : pa < qa
            · have HF := Lib.hid (pairs_false hlt (HPT.out false (by simp [plt]; omega)))
              go_wp2_with fail
              rw [← HW1.out]
              refine (l6In_any pa 1 40 _).mono ?_; rintro e w' ⟨rfl, rfl⟩; rw [HIN.out]
              go_wp2_with fail
              refine (l6In_any pb (pa + 1) 40 _).mono ?_; rintro e w' ⟨rfl, rfl⟩; rw [HIN2.out]
              go_wp2_with fail
              have hgt : decide (pa < qa) = true := decide_eq_true h1
              go_quiet (fail)
              go_wp2_with fail
              go_ret
              exact ⟨by simp [HF.out], Below.drewN HBA.out _⟩
            · by_cases h2 : qa = pa
              · by_cases h3 : pb ≤ qb
                · have HF := Lib.hid (pairs_false hlt (HPT.out false (by simp [plt]; omega)))
                  have h2' : (qa == pa) = true := beq_iff_eq.2 h2
                  have H2 := Lib.hid h2; clear h2
                  go_wp2_with fail
                  rw [← HW1.out]
                  refine (l6In_any pa 1 40 _).mono ?_; rintro e w' ⟨rfl, rfl⟩; rw [HIN.out]
                  go_wp2_with fail
                  refine (l6In_any pb (pa + 1) 40 _).mono ?_; rintro e w' ⟨rfl, rfl⟩; rw [HIN2.out]
                  go_wp2_with fail
                  have hne : decide (qa = pa) = true := decide_eq_true H2.out
                  have hgt : decide (pa < qa) = false := decide_eq_false (by omega)
                  have hge : decide (pb ≤ qb) = true := decide_eq_true h3
                  go_quiet (fail)
                  go_wp2_with fail
                  go_ret
                  exact ⟨by simp [HF.out], Below.drewN HBA.out _⟩
                · have HT := Lib.hid (range_all_succ HL.out (HPT.out true (by simp [plt]; omega)))
                  have h2' : (qa == pa) = true := beq_iff_eq.2 h2
                  have H2 := Lib.hid h2; clear h2
                  go_wp2_with fail
                  rw [← HW1.out]
                  refine (l6In_any pa 1 40 _).mono ?_; rintro e w' ⟨rfl, rfl⟩; rw [HIN.out]
                  go_wp2_with fail
                  refine (l6In_any pb (pa + 1) 40 _).mono ?_; rintro e w' ⟨rfl, rfl⟩; rw [HIN2.out]
                  go_wp2_with fail
                  have hne : decide (qa = pa) = true := decide_eq_true H2.out
                  have hgt : decide (pa < qa) = false := decide_eq_false (by omega)
                  have hge : decide (pb ≤ qb) = false := decide_eq_false (by omega)
                  go_quiet (fail)
                  go_wp2_with fail
                  exact ⟨⟨j + 1 + 1, by omega, by go_num, HT.out, Below.drewN HBA.out _⟩, by simp [intOf]; omega⟩
              · have h2' : (qa == pa) = false := beq_eq_false_iff_ne.2 h2
                have HT := Lib.hid (range_all_succ HL.out (HPT.out true (by simp [plt]; omega)))
                have H2 := Lib.hid h2; clear h2
                go_wp2_with fail
                rw [← HW1.out]
                refine (l6In_any pa 1 40 _).mono ?_; rintro e w' ⟨rfl, rfl⟩; rw [HIN.out]
                go_wp2_with fail
                refine (l6In_any pb (pa + 1) 40 _).mono ?_; rintro e w' ⟨rfl, rfl⟩; rw [HIN2.out]
                go_wp2_with fail
                have hne : decide (qa = pa) = false := decide_eq_false H2.out
                have hgt : decide (pa < qa) = false := decide_eq_false (by omega)
                go_quiet (fail)
                go_wp2_with fail
                exact ⟨⟨j + 1 + 1, by omega, by go_num, HT.out, Below.drewN HBA.out _⟩, by simp [intOf]; omega⟩
    · have HT : Hid ((List.range ps.length).all (pairOk ps) = true) := by
        have := HL.out
        rwa [show k = ps.length by omega] at this
      go_wp2
      go_ret
      refine ⟨?_, HB.out⟩
      simp only [pairsB, HT.out, Bool.true_and]
      simp
      omega
end Go.Proofs.Ytojbljaleconpaa
