/- TasksValid, the reference's. No condition but on sizes. -/
import Derived.Test.YtcmampicgdobcaaTw
import Derived.Test.YtcmampicgdobcaaLw
namespace Go.Proofs.Ytcmampicgdobcaa
open Go.RowKit
set_option maxHeartbeats 1000000 in
theorem tasksValidS_any (A : Option Addr) (c lo hi : Nat) (ys : List Int) (B : Option Addr) (d lo' hi' : Nat) (ts : List TaskV) (w : World) (hI : Ints w lo hi A c ys) (hl : ys.length ≤ 1048576) (hT : Tasks w lo' hi' B d ts) (hm : ts.length ≤ 1048576)
    (hn : ∀ t, t ∈ ts → t.need.length ≤ 1048576) (h1 : hi ≤ w.heap.size) (h2 : hi' ≤ w.heap.size) :
    Calls Try.prog 56 #[.slice A ys.length c, .slice B ts.length d] w fun e w' => e = .returned (.bool (tasksB ys (ts.map pv))) ∧ Below w.heap.size w w' := by
  have HI := Lib.hid hI; clear hI
  have HT := Lib.hid hT; clear hT
  have HN := Lib.hid hn; clear hn
  cases hr : roomB ys
  · have HR := Lib.hid hr; clear hr
    go_enter Try.func56, Try.ntmps56
    go_wp2_with fail
    refine (l2Room_any A c lo hi ys _ HI.out hl).mono ?_; rintro e w' ⟨rfl, rfl⟩
    rw [HR.out]
    go_wp2_with fail
    go_ret
    exact ⟨by simp [tasksB, HR.out], Below.refl _ _⟩
  have HR := Lib.hid hr; clear hr
  go_enter Try.func56, Try.ntmps56
  go_wp2_with fail
  refine (l2Room_any A c lo hi ys _ HI.out hl).mono ?_; rintro e w' ⟨rfl, rfl⟩
  rw [HR.out]
  go_wp2_with fail
  go_loopw [5] (fun i wr => ∃ k : Nat, k ≤ ts.length ∧ i = .int .i64 k ∧ (List.range k).all (taskOk ys (ts.map pv)) = true ∧ Below w.heap.size w wr) (fun i _ => ts.length - (intOf i).toNat)
  case atStart => exact ⟨0, by omega, rfl, by simp, Below.refl _ _⟩
  case round =>
    obtain ⟨k, hk, rfl, hall, hbl⟩ := hrel
    have HL := Lib.hid hall; clear hall
    have HB := Lib.hid hbl; clear hbl
    have hsz := HB.out.size
    by_cases hlt : k < ts.length
    · obtain ⟨b, off, t, rfl, ht, hc1, hc2, _, _, hN⟩ := (HT.out.below HB.out h2).at_ hlt
      have HNt := Lib.hid (HN.out t (List.mem_of_getElem? ht))
      have HP : Hid ((ts.map pv)[k]? = some (pv t)) := Lib.hid (by rw [List.getElem?_map, ht]; rfl)
      have hkm : k < (ts.map pv).length := by simpa using hlt
      have HO := Lib.hid (taskOk_eq (room := ys) HP.out)
      have HNN := Lib.hid hN; clear hN ht
      have HII := Lib.hid (HI.out.below HB.out h1)
      have HTT := Lib.hid (HT.out.below HB.out h2)
      cases hin : inB t.id 1 40
      · have HF := Lib.hid (tasksB_false (room := ys) hkm (show taskOk ys (ts.map pv) k = false by rw [HO.out]; simp [pv, hin]))
        have HIN := Lib.hid hin; clear hin
        go_wp2_with fail
        refine (l6In_any _ _ _ _).mono ?_; rintro e w' ⟨rfl, rfl⟩
        rw [HIN.out]
        go_wp2_with fail
        go_ret
        exact ⟨by simp [HF.out], HB.out⟩
      · have HIN := Lib.hid hin; clear hin
        cases hha : hasB ((ts.map pv).take k) t.id
        · have HHA := Lib.hid hha; clear hha
          obtain ⟨v, hv⟩ : ∃ v, vfitsB t.need ys = v := ⟨_, rfl⟩
          have HV := Lib.hid hv; clear hv
          go_wp2_with fail
          refine (l6In_any _ _ _ _).mono ?_; rintro e w' ⟨rfl, rfl⟩
          rw [HIN.out]
          go_wp2_with fail
          refine (l2Has_any (some ⟨b, off, none⟩) d _ _ ts k t.id _ HTT.out hk hm).mono ?_; rintro e w' ⟨rfl, rfl⟩
          rw [HHA.out]
          go_wp2_with fail
          refine (vecFitsS_any t.a A t.c c _ _ _ _ t.need ys _ HNN.out HII.out HNt.out hl).mono ?_; rintro e w' ⟨rfl, hd⟩
          have HS := Lib.hid (HB.out.trans ((drawn_below hd).mono hsz)); clear hd
          rw [HV.out]
          cases v
          · have HF := Lib.hid (tasksB_false (room := ys) hkm (show taskOk ys (ts.map pv) k = false by rw [HO.out]; simp [pv, HV.out]))
            go_wp2_with fail
            go_ret
            exact ⟨by simp [HF.out], HS.out⟩
          · have HT2 := Lib.hid (rangeAll_succ HL.out (show taskOk ys (ts.map pv) k = true by rw [HO.out]; simp [pv, HV.out, HHA.out, HIN.out]))
            go_wp2_with fail
            go_roundw
            case rel => exact ⟨k + 1, by omega, by go_num, HT2.out, HS.out⟩
            case measure => simp [intOf]; omega
        · have HHA := Lib.hid hha; clear hha
          have HF := Lib.hid (tasksB_false (room := ys) hkm (show taskOk ys (ts.map pv) k = false by rw [HO.out]; simp [pv, HHA.out]))
          go_wp2_with fail
          refine (l6In_any _ _ _ _).mono ?_; rintro e w' ⟨rfl, rfl⟩
          rw [HIN.out]
          go_wp2_with fail
          refine (l2Has_any (some ⟨b, off, none⟩) d _ _ ts k t.id _ HTT.out hk hm).mono ?_; rintro e w' ⟨rfl, rfl⟩
          rw [HHA.out]
          go_wp2_with fail
          go_ret
          exact ⟨by simp [HF.out], HB.out⟩
    · have HT2 : Hid (tasksB ys (ts.map pv) = decide ((ts.length : Int) ≤ 14)) := Lib.hid (by
        have := HL.out
        rw [show k = (ts.map pv).length by simp; omega] at this
        rw [tasksB, HR.out, this]
        simp only [Bool.true_and, List.length_map]
        rw [Bool.eq_iff_iff]; simp; omega)
      go_wp2_with fail
      go_ret
      exact ⟨by simp [HT2.out], HB.out⟩
end Go.Proofs.Ytcmampicgdobcaa
