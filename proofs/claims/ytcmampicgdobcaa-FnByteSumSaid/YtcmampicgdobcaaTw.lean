/- Rooms and numbers of tasks: contracts of l2Room, slices.Min, roomValid, l2Has. No condition but on sizes. -/
import Derived.Test.YtcmampicgdobcaaTv
namespace Go.Proofs.Ytcmampicgdobcaa
open Go.RowKit
theorem all_take_snoc {ys : List Int} {k : Nat} {y : Int} {p : Int → Bool} (h : ys[k]? = some y) : (ys.take (k + 1)).all p = ((ys.take k).all p && p y) := by
  rw [take_succ_some h, List.all_append]; simp
theorem roomB_false {ys : List Int} {k : Nat} {y : Int} (h : ys[k]? = some y) (hy : y < 1) : roomB ys = false := by
  have : ys.all (fun n => decide (1 ≤ n)) = false := by
    rw [List.all_eq_false]; exact ⟨y, List.mem_of_getElem? h, by simp; omega⟩
  simp [roomB, this]
theorem l2Room_any (A : Option Addr) (c lo hi : Nat) (ys : List Int) (w : World) (hI : Ints w lo hi A c ys) (hl : ys.length ≤ 1048576) :
    Calls Try.prog 21 #[.slice A ys.length c] w fun e w' => e = .returned (.bool (roomB ys)) ∧ w = w' := by
  have HI := Lib.hid hI; clear hI
  go_enter Try.func21, Try.ntmps21
  go_wp2_with fail
  go_loop [3] (fun i => ∃ k : Nat, k ≤ ys.length ∧ i = .int .i64 k ∧ (ys.take k).all (fun n => decide (1 ≤ n)) = true) (fun i => ys.length - (intOf i).toNat)
  case atStart => exact ⟨0, by omega, rfl, by simp⟩
  case round =>
    obtain ⟨k, hk, rfl, hall⟩ := hrel
    have HL := Lib.hid hall; clear hall
    by_cases hlt : k < ys.length
    · obtain ⟨b, off, y, rfl, hy, hc, _, _, _⟩ := HI.out.at_ hlt
      have HY := Lib.hid hy; clear hy
      by_cases h1 : y < 1
      · have HF := Lib.hid (roomB_false HY.out h1)
        go_wp2_with fail
        go_ret
        exact ⟨by simp [HF.out], rfl⟩
      · have HT : Hid ((ys.take (k + 1)).all (fun n => decide (1 ≤ n)) = true) := Lib.hid (by rw [all_take_snoc HY.out, HL.out]; simp; omega)
        go_wp2_with fail
        go_round
        case rel => exact ⟨k + 1, by omega, by go_num, HT.out⟩
        case measure => simp [intOf]; omega
    · have HT : Hid (roomB ys = vecB ys) := Lib.hid (by
        have := HL.out
        rw [List.take_of_length_le (by omega)] at this
        simp [roomB, this])
      go_wp2_with fail
      refine (vecValidS_any A c lo hi ys _ HI.out hl).mono ?_; rintro e w' ⟨rfl, rfl⟩
      go_wp2_with fail
      go_ret
      exact ⟨by simp [HT.out], rfl⟩
theorem min_any (A : Option Addr) (c lo hi : Nat) (ys : List Int) (w : World) (hI : Ints w lo hi A c ys) (hl : ys.length ≤ 1048576) (h0 : 0 < ys.length) :
    Calls Try.prog 32 #[.slice A ys.length c] w fun e w' => ∃ m : Int, e = .returned (.int .i64 m) ∧ decide (1 ≤ m) = ys.all (fun n => decide (1 ≤ n)) ∧ w = w' := by
  have HI := Lib.hid hI; clear hI
  obtain ⟨b, off, y, rfl, hy, hc, _, _, _⟩ := HI.out.at_ h0
  simp only [Nat.add_zero] at hc
  have HY := Lib.hid hy; clear hy
  have h0' : ¬ ((ys.length : Int) < 1) := by omega
  have h0'' : (0 : Int) < ys.length := by omega
  go_enter Try.func32, Try.ntmps32
  go_wp2_with fail
  go_loop [3, 4] (fun s i => ∃ k : Nat, ∃ m : Int, 1 ≤ k ∧ k ≤ ys.length ∧ i = .int .i64 k ∧ s = .int .i64 m ∧ decide (1 ≤ m) = (ys.take k).all (fun n => decide (1 ≤ n))) (fun _ i => ys.length - (intOf i).toNat)
  case atStart => exact ⟨1, y, by omega, by omega, rfl, rfl, by rw [all_take_snoc HY.out]; simp⟩
  case round =>
    obtain ⟨k, m, hk1, hk, rfl, rfl, hall⟩ := hrel
    have HL := Lib.hid hall; clear hall
    by_cases hlt : k < ys.length
    · obtain ⟨b', off', z, he, hz, hc', _, _, _⟩ := HI.out.at_ hlt
      simp only [Option.some.injEq, Addr.mk.injEq, and_true] at he
      obtain ⟨rfl, rfl⟩ := he
      obtain ⟨u, hu⟩ : ∃ u, (if z < m then z else m) = u := ⟨_, rfl⟩
      have HT : Hid (decide (1 ≤ u) = (ys.take (k + 1)).all (fun n => decide (1 ≤ n))) := Lib.hid (by
        rw [all_take_snoc hz, ← HL.out, ← hu]
        by_cases h1 : z < m
        · rw [if_pos h1]; rw [Bool.eq_iff_iff]; simp; omega
        · rw [if_neg h1]; rw [Bool.eq_iff_iff]; simp; omega)
      clear hz
      go_wp2_with fail
      go_round
      case rel => exact ⟨k + 1, u, by omega, by omega, by go_num, rfl, HT.out⟩
      case measure => simp [intOf]; omega
    · have HT : Hid (decide (1 ≤ m) = ys.all (fun n => decide (1 ≤ n))) := Lib.hid (by
        have := HL.out
        rwa [List.take_of_length_le (by omega)] at this)
      go_wp2_with fail
      go_ret
      exact ⟨m, by simp, HT.out, rfl⟩
theorem roomValid_any (A : Option Addr) (c lo hi : Nat) (ys : List Int) (w : World) (hI : Ints w lo hi A c ys) (hl : ys.length ≤ 1048576) :
    Calls Try.prog 18 #[.slice A ys.length c] w fun e w' => e = .returned (.bool (roomB ys)) ∧ w = w' := by
  have HI := Lib.hid hI; clear hI
  cases hv : vecB ys
  · have HV := Lib.hid hv; clear hv
    go_enter Try.func18, Try.ntmps18
    go_wp2_with fail
    refine (vecValid_any A c lo hi ys _ HI.out hl).mono ?_; rintro e w' ⟨rfl, rfl⟩
    rw [HV.out]
    go_wp2_with fail
    go_ret
    exact ⟨by simp [roomB, HV.out], rfl⟩
  · have HV := Lib.hid hv; clear hv
    have h0 : 0 < ys.length := by rw [vec_len HV.out]; omega
    go_enter Try.func18, Try.ntmps18
    go_wp2_with fail
    refine (vecValid_any A c lo hi ys _ HI.out hl).mono ?_; rintro e w' ⟨rfl, rfl⟩
    rw [HV.out]
    go_wp2_with fail
    refine (min_any A c lo hi ys _ HI.out hl h0).mono ?_; rintro e w' ⟨m, rfl, hm, rfl⟩
    have HM : Hid (roomB ys = decide (1 ≤ m)) := Lib.hid (by rw [hm, roomB, HV.out, Bool.and_true])
    clear hm
    go_wp2_with fail
    go_ret
    exact ⟨by simp [HM.out], rfl⟩
theorem hasB_true {ps : List (Int × List Int)} {k m : Nat} {p : Int × List Int} {id : Int} (h : ps[k]? = some p) (hk : k < m) (hp : p.1 = id) : hasB (ps.take m) id = true := by
  rw [hasB, List.any_eq_true]
  exact ⟨p, List.mem_of_getElem? (i := k) (by rw [List.getElem?_take, if_pos hk]; exact h), by simp [hp]⟩
theorem l2Has_any (A : Option Addr) (c lo hi : Nat) (ts : List TaskV) (m : Nat) (id : Int) (w : World) (hI : Tasks w lo hi A c ts) (hm : m ≤ ts.length) (hl : ts.length ≤ 1048576) :
    Calls Try.prog 65 #[.slice A ts.length c, .int .i64 m, .int .i64 id] w fun e w' => e = .returned (.bool (hasB ((ts.map pv).take m) id)) ∧ w = w' := by
  have HI := Lib.hid hI; clear hI
  go_enter Try.func65, Try.ntmps65
  go_wp2_with fail
  go_loop [7] (fun i => ∃ k : Nat, k ≤ m ∧ i = .int .i64 k ∧ hasB ((ts.map pv).take k) id = false) (fun i => m - (intOf i).toNat)
  case atStart => exact ⟨0, by omega, rfl, by simp [hasB]⟩
  case round =>
    obtain ⟨k, hk, rfl, hall⟩ := hrel
    have HL := Lib.hid hall; clear hall
    by_cases hlt : k < m
    · obtain ⟨b, off, t, rfl, ht, hc1, hc2, _, _, _⟩ := HI.out.at_ (k := k) (by omega)
      have HP : Hid ((ts.map pv)[k]? = some (pv t)) := Lib.hid (by rw [List.getElem?_map, ht]; rfl)
      have hkl : (k : Int) < ts.length := by omega
      clear ht
      by_cases h1 : t.id = id
      · have HF := Lib.hid (hasB_true (m := m) HP.out hlt h1)
        go_wp2_with fail
        go_ret
        exact ⟨by simp [HF.out], rfl⟩
      · have h1' : (t.id == id) = false := by simp [h1]
        have HT : Hid (hasB ((ts.map pv).take (k + 1)) id = false) := Lib.hid (by rw [hasB_take HP.out, HL.out]; simpa [pv] using h1)
        go_wp2_with fail
        go_round
        case rel => exact ⟨k + 1, by omega, by go_num, HT.out⟩
        case measure => simp [intOf]; omega
    · have HT : Hid (hasB ((ts.map pv).take m) id = false) := Lib.hid (by
        have := HL.out
        rwa [show k = m by omega] at this)
      go_wp2_with fail
      go_ret
      exact ⟨by simp [HT.out], rfl⟩
end Go.Proofs.Ytcmampicgdobcaa
