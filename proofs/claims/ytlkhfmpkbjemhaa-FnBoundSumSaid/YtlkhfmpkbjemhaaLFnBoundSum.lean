/- The walk of one statement: by the contracts of what it calls it returns true and changes nothing that was there. No condition. -/
import Derived.Test.YtlkhfmpkbjemhaaSk
namespace Go.Proofs.Ytlkhfmpkbjemhaa
open Go.RowKit
set_option maxHeartbeats 2000000 in
theorem FnBoundSum_walk (A : Option Addr) (n c : Nat) (w : World) (hA : BytesR w w.heap.size A n) (hc : n ≤ c) (hm : c ≤ maxLen) :
    Calls Try.prog 8 #[.slice A n c] w fun e w' => e = .returned (.bool true) ∧ Below w.heap.size w w' := by
  have HA := Lib.hid hA; clear hA
  by_cases hn : 1048576 < n
  · go_enter Try.func8, Try.ntmps8
    go_wp2
    go_ret
    exact ⟨by simp, Below.refl _ _⟩
  have hnd : ¬ ((1048576 : Int) < (n : Int)) := by omega
  go_enter Try.func8, Try.ntmps8
  go_wp2_with fail
  refine (DrawBoundSum_any A n c w HA.out hc hm).mono ?_; rintro e w1 ⟨A1, c1, room, B1, d1, ts, rfl, hI, hg, hT, hgt, hl, hb⟩
  have HI := Lib.hid hI; clear hI
  have HG := Lib.hid hg; clear hg
  have HT := Lib.hid hT; clear hT
  have HGT := Lib.hid hgt; clear hgt
  have HB := Lib.hid hb; clear hb
  have hs1 := HB.out.size
  have hlr : room.length ≤ 3 := Nat.le_of_eq HG.out.1
  have hnl : ∀ t, t ∈ ts → t.need.length ≤ 1048576 := fun t ht => by have := (HGT.out t ht).1.1; omega
  have HNL := Lib.hid hnl; clear hnl
  have HWF := Lib.hid (fun t ht => (HGT.out t ht).wf : ∀ t, t ∈ ts → (Lit.int .i64 t.id).wf = true)
  obtain ⟨v, hv⟩ : ∃ v, boundS room (ts.map pv) = v := ⟨_, rfl⟩
  have HVv := Lib.hid hv; clear hv
  go_wp2_with fail
  refine (boundSum_any A1 c1 _ _ room B1 d1 _ _ ts w1 HI.out (by omega) HT.out (by omega) HNL.out HWF.out (by omega) (by omega)).mono ?_; rintro e w2 ⟨rfl, hb⟩
  rw [HVv.out]
  have hsw2 := hb.size
  first | replace HI := Lib.hid (Ints.only HI.out hb (by omega) (by omega)) | replace HI := Lib.hid (Ints.below HI.out hb (by omega))
  first | replace HT := Lib.hid (Tasks.only HT.out hb (by omega) (by omega)) | replace HT := Lib.hid (Tasks.below HT.out hb (by omega))
  first | replace HB := Lib.hid (Below.trans HB.out (Below.mono hb (by omega))) | replace HB := Lib.hid (Below.trans HB.out (Only.below hb (by omega) (by omega)))
  clear hb
  go_wp2_with fail
  refine (boundSumS_any A1 c1 _ _ room B1 d1 _ _ ts w2 HI.out (by omega) HT.out (by omega) HNL.out (by omega) (by omega)).mono ?_; rintro e w3 ⟨rfl, hb⟩
  rw [HVv.out]
  have hsw3 := hb.size
  first | replace HI := Lib.hid (Ints.only HI.out hb (by omega) (by omega)) | replace HI := Lib.hid (Ints.below HI.out hb (by omega))
  first | replace HT := Lib.hid (Tasks.only HT.out hb (by omega) (by omega)) | replace HT := Lib.hid (Tasks.below HT.out hb (by omega))
  first | replace HB := Lib.hid (Below.trans HB.out (Below.mono hb (by omega))) | replace HB := Lib.hid (Below.trans HB.out (Only.below hb (by omega) (by omega)))
  clear hb
  cases hv : tasksB room (ts.map pv)
  · have hv1 : v = -1 := by rw [← HVv.out]; exact boundS_no' hv
    subst hv1
    clear hv
    go_wp2_with fail
    go_ret
    exact ⟨by simp, HB.out⟩
  have HV := Lib.hid hv; clear hv
  have hv0 : 0 ≤ v := by rw [← HVv.out]; exact (boundS_bd HV.out).1
  have hvl : v ≤ 16 := by rw [← HVv.out]; have := (boundS_bd HV.out).2; rw [List.length_map] at this; omega
  obtain ⟨x, y, z, hroom, hx, hy, hz, hld⟩ := tasks_load HV.out
  rw [needs_pv] at hld
  have h5 := binLoad_any A1 c1 _ _ room B1 d1 _ _ ts w3 HI.out (by omega) HT.out (by omega) HNL.out HWF.out (by omega) (by omega)
  rw [show binLoad room (ts.map pv) = loadL (needs ts) by rw [binLoad, if_pos HV.out, needs_pv]] at h5
  have H5 := Lib.hid h5; clear h5
  have hE := HVv.out
  rw [boundS_yes HV.out] at hE
  subst hroom
  obtain ⟨a, ha⟩ : ∃ a, loadC 0 (needs ts) = a := ⟨_, rfl⟩
  obtain ⟨b, hb⟩ : ∃ b, loadC 1 (needs ts) = b := ⟨_, rfl⟩
  obtain ⟨c9, hc9⟩ : ∃ c, loadC 2 (needs ts) = c := ⟨_, rfl⟩
  have hload : loadL (needs ts) = [a, b, c9] := by rw [loadL, ha, hb, hc9]
  have ba := hld 0
  have bb := hld 1
  have bc := hld 2
  rw [ha] at ba
  rw [hb] at bb
  rw [hc9] at bc
  rw [hload] at hE
  have hrm := @bound_room a b c9 x y z (by omega) (by omega) (by omega)
  have htt := @bound_tight a b c9 x y z (by omega) (by omega) (by omega)
  rw [hE] at hrm htt
  have HLD := Lib.hid hload
  clear hload hE hld ha hb hc9
  go_wp2_with fail
  refine H5.out.mono ?_; rintro e w4 ⟨A5, c5, rfl, hI5, hb⟩
  rw [HLD.out] at hI5 ⊢
  have HI5 := Lib.hid hI5; clear hI5
  first | replace HI := Lib.hid (Ints.only HI.out hb (by omega) (by omega)) | replace HI := Lib.hid (Ints.below HI.out hb (by omega))
  first | replace HB := Lib.hid (Below.trans HB.out (Below.mono hb (by omega))) | replace HB := Lib.hid (Below.trans HB.out (Only.below hb (by omega) (by omega)))
  clear hb H5
  have hfin := tight_all htt
  have HFN := Lib.hid hfin
  have HRW := Lib.hid (fun k hk => bound_row hrm ⟨hv0, hvl⟩ hx hy hz (k := k) hk)
  have hvw : IntKind.i64.wrap (v - 1) = v - 1 := wrap_small (by omega)
  clear hfin hrm htt ba bb bc
  go_wp2_with fail
  go_loopw [8, 9] (fun f i wr => ∃ k n : Nat, k ≤ 3 ∧ i = .int .i64 k ∧ f = .bool ((v == 0) || ((tightL v [a, b, c9] [x, y, z]).take k).any id) ∧ wr = w4.drewN n) (fun _ i _ => 3 - (intOf i).toNat)
  case atStart => exact ⟨0, 0, by omega, rfl, by simp, rfl⟩
  case round =>
    obtain ⟨k, n2, hk, rfl, hf, rfl⟩ := hrel
    obtain ⟨f, hfe⟩ : ∃ f, ((v == 0) || ((tightL v [a, b, c9] [x, y, z]).take k).any id) = f := ⟨_, rfl⟩
    rw [hfe] at hf
    subst hf
    have HF := Lib.hid hfe; clear hfe
    by_cases hlt : k < 3
    · obtain ⟨l, r, p, q, hl1, hr1, hp1, hq1, hlp, hpb, hqb⟩ := HRW.out k hlt
      obtain ⟨b5, off5, l', rfl, hl2, hc1, _, _, _⟩ := HI5.out.at_ (k := k) (by simpa using hlt)
      obtain rfl : l' = l := by rw [hl1] at hl2; exact (Option.some.inj hl2).symm
      obtain ⟨b6, off6, r', rfl, hr2, hc2, _, _, _⟩ := HI.out.at_ (k := k) (by simpa using hlt)
      obtain rfl : r' = r := by rw [hr1] at hr2; exact (Option.some.inj hr2).symm
      have HS := Lib.hid (tight_snoc hl1 hr1 hq1)
      have hpw : IntKind.i64.wrap p = p := wrap_small (by omega)
      have hqw : IntKind.i64.wrap q = q := wrap_small (by omega)
      have hk3 : (k : Int) < 3 := by omega
      clear hl1 hl2 hr1 hr2
      cases f
      · go_wp2_with fail
        go_quiet (fail)
        go_wp2_with fail
        go_quiet (fail)
        go_wp2_with fail
        refine ⟨⟨k + 1, _, by omega, by go_num, ?_, rfl⟩, by simp [intOf]; omega⟩
        rw [HS.out, ← Bool.or_assoc, HF.out]; rfl
      · go_wp2_with fail
        go_quiet (fail)
        go_wp2_with fail
        go_quiet (fail)
        go_wp2_with fail
        refine ⟨⟨k + 1, _, by omega, by go_num, ?_, rfl⟩, by simp [intOf]; omega⟩
        rw [HS.out, ← Bool.or_assoc, HF.out]; rfl
    · have hf1 : f = true := by rw [← HF.out, ← HFN.out, List.take_of_length_le (by simp [tightL]; omega)]
      subst hf1
      go_wp2_with fail
      go_ret
      exact ⟨by simp, HB.out.trans ((drawn_below ⟨n2, rfl⟩).mono HB.out.size)⟩
end Go.Proofs.Ytlkhfmpkbjemhaa
