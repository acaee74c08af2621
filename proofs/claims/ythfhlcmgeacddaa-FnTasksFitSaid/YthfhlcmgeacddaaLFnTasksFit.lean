/- The walk of one statement: by the contracts of what it calls it returns true and changes nothing that was there. No condition. -/
import Derived.Test.YthfhlcmgeacddaaLo
namespace Go.Proofs.Ythfhlcmgeacddaa
open Go.RowKit
theorem FnTasksFit_walk (A : Option Addr) (n c : Nat) (w : World) (hA : BytesR w w.heap.size A n) (hc : n ≤ c) (hm : c ≤ maxLen) :
    Calls Try.prog 6 #[.slice A n c] w fun e w' => e = .returned (.bool true) ∧ Below w.heap.size w w' := by
  have HA := Lib.hid hA; clear hA
  by_cases hn : 1048576 < n
  · go_enter Try.func6, Try.ntmps6
    go_wp2
    go_ret
    exact ⟨by simp, Below.refl _ _⟩
  have hnd : ¬ ((1048576 : Int) < (n : Int)) := by omega
  go_enter Try.func6, Try.ntmps6
  go_wp2_with fail
  refine (DrawTasksValid_any A n c w HA.out hc hm).mono ?_; rintro e w1 ⟨A1, c1, room, B, d, ts, rfl, hI, hg, hT, hgt, hl, hb⟩
  have HI := Lib.hid hI; clear hI
  have HG := Lib.hid hg; clear hg
  have HT := Lib.hid hT; clear hT
  have HGT := Lib.hid hgt; clear hgt
  have HB := Lib.hid hb; clear hb
  have hs1 := HB.out.size
  have hlr : room.length ≤ 3 := Nat.le_of_eq HG.out.1
  have hnl : ∀ t, t ∈ ts → t.need.length ≤ 1048576 := fun t ht => by have := (HGT.out t ht).1.1; omega
  have HNL := Lib.hid hnl; clear hnl
  go_wp2_with fail
  refine (tasksValid_any A1 c1 _ _ room B d _ _ ts w1 HI.out (by omega) HT.out (by omega) HNL.out (fun t ht => (HGT.out t ht).wf) (Nat.le_refl _) (Nat.le_refl _)).mono ?_; rintro e w2 ⟨rfl, hb⟩
  have hs2 := hb.size
  first | replace HI := Lib.hid (Ints.only HI.out hb (by omega) (by omega)) | replace HI := Lib.hid (Ints.below HI.out hb (by omega))
  first | replace HT := Lib.hid (Tasks.only HT.out hb (by omega) (by omega)) | replace HT := Lib.hid (Tasks.below HT.out hb (by omega))
  first | replace HB := Lib.hid (Below.trans HB.out (Below.mono hb (by omega))) | replace HB := Lib.hid (Below.trans HB.out (Only.below hb (by omega) (by omega)))
  clear hb
  go_wp2_with fail
  refine (tasksValidS_any A1 c1 _ _ room B d _ _ ts w2 HI.out (by omega) HT.out (by omega) HNL.out (by omega) (by omega)).mono ?_; rintro e w3 ⟨rfl, hb⟩
  have hs3 := hb.size
  first | replace HI := Lib.hid (Ints.only HI.out hb (by omega) (by omega)) | replace HI := Lib.hid (Ints.below HI.out hb (by omega))
  first | replace HT := Lib.hid (Tasks.only HT.out hb (by omega) (by omega)) | replace HT := Lib.hid (Tasks.below HT.out hb (by omega))
  first | replace HB := Lib.hid (Below.trans HB.out (Below.mono hb (by omega))) | replace HB := Lib.hid (Below.trans HB.out (Only.below hb (by omega) (by omega)))
  clear hb
  cases hv : tasksB room (ts.map pv)
  · go_wp2_with fail
    go_ret
    exact ⟨by simp, HB.out⟩
  have HV := Lib.hid hv; clear hv
  go_wp2_with fail
  go_loopw [7] (fun i wr => ∃ k : Nat, k ≤ ts.length ∧ i = .int .i64 k ∧ Below w3.heap.size w3 wr) (fun i _ => ts.length - (intOf i).toNat)
  case atStart => exact ⟨0, by omega, rfl, Below.refl _ _⟩
  case round =>
    obtain ⟨k, hk, rfl, hb⟩ := hrel
    have hs4 := hb.size
    first | replace HI := Lib.hid (Ints.only HI.out hb (by omega) (by omega)) | replace HI := Lib.hid (Ints.below HI.out hb (by omega))
    first | replace HT := Lib.hid (Tasks.only HT.out hb (by omega) (by omega)) | replace HT := Lib.hid (Tasks.below HT.out hb (by omega))
    first | replace HB := Lib.hid (Below.trans HB.out (Below.mono hb (by omega))) | replace HB := Lib.hid (Below.trans HB.out (Only.below hb (by omega) (by omega)))
    by_cases hlt : k < ts.length
    · obtain ⟨b, off, t, rfl, ht, hc1, hc2, _, hbh, hN⟩ := HT.out.at_ hlt
      have hcd := HT.out.len.1
      have HF := Lib.hid (tasks_fit HV.out (p := pv t) (List.mem_map.2 ⟨t, List.mem_of_getElem? ht, rfl⟩))
      have HF1 := Lib.hid (tasks_one HV.out (p := pv t) (List.mem_map.2 ⟨t, List.mem_of_getElem? ht, rfl⟩))
      have HGt := Lib.hid (HGT.out t (List.mem_of_getElem? ht))
      have HN := Lib.hid hN; clear hN
      have HTk := Lib.hid ht; clear ht
      have HL := Lib.hid hb; clear hb
      have hklt : (k : Int) < ts.length := by omega
      go_wp2_with fail
      refine (vecFits_any t.a A1 t.c c1 _ _ _ _ t.need room wr HN.out HI.out (by have := HGt.out.1.1; omega) (by omega)).mono ?_; rintro e w' ⟨rfl, rfl⟩
      rw [show vfitsB t.need room = true from HF.out]
      go_wp2_with fail
      refine (tasksValid_any A1 c1 _ _ room (some ⟨b, off + k * 2, none⟩) (d - k) _ _ [t] wr HI.out (by omega) (HT.out.one HTk.out) (by simp) (fun u hu => by rw [List.mem_singleton.1 hu]; have := HGt.out.1.1; omega) (fun u hu => by rw [List.mem_singleton.1 hu]; exact HGt.out.wf) (by omega) (by omega)).mono ?_; rintro e w5 ⟨rfl, hb⟩
      rw [show tasksB room (List.map pv [t]) = true from HF1.out]
      replace HL := Lib.hid (HL.out.trans (hb.mono hs4))
      clear hb
      go_wp2_with fail
      go_roundw
      case rel => exact ⟨k + 1, by omega, by go_num, HL.out⟩
      case measure => simp [intOf]; omega
    · go_wp2_with fail
      go_ret
      exact ⟨by simp, HB.out⟩
end Go.Proofs.Ythfhlcmgeacddaa
