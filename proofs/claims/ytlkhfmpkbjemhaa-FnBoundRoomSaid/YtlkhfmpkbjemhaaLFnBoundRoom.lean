/- The walk of one statement: by the contracts of what it calls it returns true and changes nothing that was there. No condition. -/
import Derived.Test.YtlkhfmpkbjemhaaSk
namespace Go.Proofs.Ytlkhfmpkbjemhaa
open Go.RowKit
set_option maxHeartbeats 2000000 in
theorem FnBoundRoom_walk (A : Option Addr) (n c : Nat) (B : Option Addr) (m d : Nat) (w : World) (hA : BytesR w w.heap.size A n) (hc : n ≤ c) (hm : c ≤ maxLen) (_hB : BytesR w w.heap.size B m) (_hd : m ≤ d) (_hm2 : d ≤ maxLen) :
    Calls Try.prog 12 #[.slice A n c, .slice B m d] w fun e w' => e = .returned (.bool true) ∧ Below w.heap.size w w' := by
  have HA := Lib.hid hA; clear hA
  by_cases hn : 1048576 < n
  · go_enter Try.func12, Try.ntmps12
    go_wp2
    go_ret
    exact ⟨by simp, Below.refl _ _⟩
  have hnd : ¬ ((1048576 : Int) < (n : Int)) := by omega
  by_cases hmm : 1048576 < m
  · go_enter Try.func12, Try.ntmps12
    go_wp2
    go_ret
    exact ⟨by simp, Below.refl _ _⟩
  have hmd : ¬ ((1048576 : Int) < (m : Int)) := by omega
  go_enter Try.func12, Try.ntmps12
  go_wp2_with fail
  refine (DrawBoundSum_any A n c w HA.out hc hm).mono ?_; rintro e w1 ⟨A1, c1, room, B1, d1, ts, rfl, hI, hg, hT, hgt, hl, hb⟩
  have HI := Lib.hid hI; clear hI
  have HG := Lib.hid hg; clear hg
  have HT := Lib.hid hT; clear hT
  have HGT := Lib.hid hgt; clear hgt
  have HB := Lib.hid hb; clear hb
  have hs1 := HB.out.size
  have hlr : room.length ≤ 3 := Nat.le_of_eq HG.out.1
  have hnl : ∀ t, t ∈ ts → t.need.length ≤ 1048576 := fun t ht => by have := (HGT.out t ht).1.1; omega
  have HNL := Lib.hid hnl; clear hnl
  have HWF := Lib.hid (fun t ht => (HGT.out t ht).wf : ∀ t, t ∈ ts → (Lit.int .i64 t.id).wf = true)
  obtain ⟨v, hv⟩ : ∃ v, boundS room (ts.map pv) = v := ⟨_, rfl⟩
  have HVv := Lib.hid hv; clear hv
  go_wp2_with fail
  refine (boundSum_any A1 c1 _ _ room B1 d1 _ _ ts w1 HI.out (by omega) HT.out (by omega) HNL.out HWF.out (by omega) (by omega)).mono ?_; rintro e w2 ⟨rfl, hb⟩
  rw [HVv.out]
  have hsw2 := hb.size
  first | replace HI := Lib.hid (Ints.only HI.out hb (by omega) (by omega)) | replace HI := Lib.hid (Ints.below HI.out hb (by omega))
  first | replace HT := Lib.hid (Tasks.only HT.out hb (by omega) (by omega)) | replace HT := Lib.hid (Tasks.below HT.out hb (by omega))
  first | replace HB := Lib.hid (Below.trans HB.out (Below.mono hb (by omega))) | replace HB := Lib.hid (Below.trans HB.out (Only.below hb (by omega) (by omega)))
  clear hb
  go_wp2_with fail
  refine (boundSumS_any A1 c1 _ _ room B1 d1 _ _ ts w2 HI.out (by omega) HT.out (by omega) HNL.out (by omega) (by omega)).mono ?_; rintro e w3 ⟨rfl, hb⟩
  rw [HVv.out]
  have hsw3 := hb.size
  first | replace HI := Lib.hid (Ints.only HI.out hb (by omega) (by omega)) | replace HI := Lib.hid (Ints.below HI.out hb (by omega))
  first | replace HT := Lib.hid (Tasks.only HT.out hb (by omega) (by omega)) | replace HT := Lib.hid (Tasks.below HT.out hb (by omega))
  first | replace HB := Lib.hid (Below.trans HB.out (Below.mono hb (by omega))) | replace HB := Lib.hid (Below.trans HB.out (Only.below hb (by omega) (by omega)))
  clear hb
  cases hv : tasksB room (ts.map pv)
  · have hv1 : v = -1 := by rw [← HVv.out]; exact boundS_no' hv
    subst hv1
    clear hv
    go_wp2_with fail
    go_ret
    exact ⟨by simp, HB.out⟩
  have HV := Lib.hid hv; clear hv
  have hv0 : 0 ≤ v := by rw [← HVv.out]; exact (boundS_bd HV.out).1
  obtain ⟨k, hk, hk3⟩ : ∃ k : Nat, (m : Int).tmod 3 = k ∧ k < 3 := ⟨m % 3, by rw [show (3 : Int) = ((3 : Nat) : Int) from rfl, Int.ofNat_tmod], Nat.mod_lt _ (by omega)⟩
  have hk3' : (k : Int) < 3 := by omega
  have hkr : k < room.length := by rw [HG.out.1]; exact hk3
  have hkr' : (k : Int) < room.length := by omega
  obtain ⟨b1, off1, u, hA1, hu, hc1, _, _, hbh⟩ := HI.out.at_ hkr
  subst hA1
  have hub := HG.out.2 u (List.mem_of_getElem? hu)
  have HU := Lib.hid hu; clear hu
  by_cases h20 : u = 20
  · subst h20
    go_wp2_with fail
    go_ret
    exact ⟨by simp, HB.out⟩
  have h20' : (u == 20) = false := beq_eq_false_iff_ne.2 h20
  obtain ⟨ht5, hv5, hv6⟩ := room_more HV.out HU.out h20
  rw [HVv.out] at hv6
  obtain ⟨q, hq⟩ : ∃ q, boundS (room.set k (u + 1)) (ts.map pv) = q := ⟨_, rfl⟩
  rw [hq] at hv5 hv6
  have HQ := Lib.hid hq; clear hq
  have HT5 := Lib.hid ht5; clear ht5
  have hub' : u ≤ 20 := by
    have := vec_at (room_vec (tasks_room HV.out)).1 HU.out
    omega
  have hus : IntKind.i64.wrap (u + 1) = u + 1 := wrap_small (by omega)
  have HO0 := Lib.hid (ownsRow_empty w3 3 1)
  have HR0 := Lib.hid ((HI.out.below ((Below.refl w3.heap.size w3).alloc (Nat.le_refl _) (.cells #[] 3)) (by omega)).r)
  go_wp2_with (at_builtin; refine wpList_appI elI rfl (.tmp 49) (.tmp 50) rfl _ HO0.out (some ⟨b1, off1, none⟩) room.length c1 room rfl rfl rfl HR0.out (by simp) (by omega) ?_; intro A8 c8 w8 hown2 hb2 hg2; obtain ⟨g, cap, he, hg, hgl⟩ := hown2.form (by omega); simp only [Value.slice.injEq] at he; obtain ⟨rfl, _, rfl⟩ := he; have HOW := Lib.hid hown2; have HB2 := Lib.hid hb2; clear hown2 hb2 hg2; obtain ⟨u9, hu9, hc0, hf0⟩ := own_at (cs := room) (k := k) (by simpa using HOW.out) (by omega); obtain rfl : u9 = u := (by have := HU.out; rw [hu9] at this; exact Option.some.inj this); clear hu9)
  obtain ⟨w9, hw⟩ : ∃ W, W = w8.setCell ⟨g, k, none⟩ (.int .i64 (u9 + 1)) := ⟨_, rfl⟩
  have hI9 : Ints w9 0 w9.heap.size (some ⟨g, 0, none⟩) c8 (room.set k (u9 + 1)) := by
    rw [hw]
    obtain ⟨A9, c9, he, hl9, hI9⟩ := Ints.of_own (own_set (cs := room) (by simpa using HOW.out) k (u9 + 1))
    simp only [Value.slice.injEq] at he
    obtain ⟨rfl, _, rfl⟩ := he
    exact hI9.mono (Nat.zero_le _) (Nat.le_refl _)
  have hbA : Below w3.heap.size w3 w9 := by rw [hw]; exact (((Below.refl _ _).alloc (Nat.le_refl _) _).trans HB2.out).setCell (p := ⟨g, k, none⟩) hg _
  have HI9 := Lib.hid hI9; clear hI9
  have hs9 := hbA.size
  rw [← hw]
  clear hw hc0 hf0 hc1
  replace HT := Lib.hid (HT.out.below hbA (by omega))
  replace HB := Lib.hid (HB.out.trans (hbA.mono (by omega)))
  clear hbA HOW HO0 HR0
  have hrl9 : (room.set k (u9 + 1)).length = room.length := by simp
  have h5 := boundSum_any (some ⟨g, 0, none⟩) c8 _ _ (room.set k (u9 + 1)) B1 d1 _ _ ts w9 HI9.out (by omega) HT.out (by omega) HNL.out HWF.out (Nat.le_refl _) (by omega)
  rw [HQ.out, hrl9] at h5
  have H5 := Lib.hid h5; clear h5
  have HL9 := Lib.hid hrl9; clear hrl9
  refine H5.out.mono ?_; rintro e w10 ⟨rfl, hb⟩
  have hs10 := hb.size
  replace HI9 := Lib.hid (HI9.out.below hb (Nat.le_refl _))
  replace HT := Lib.hid (HT.out.below hb (by omega))
  replace HB := Lib.hid (HB.out.trans (hb.mono (by omega)))
  clear hb H5
  obtain ⟨r, hr⟩ : ∃ r, apartI (room.set k (u9 + 1)) (ts.map pv) = r := ⟨_, rfl⟩
  have hrb := (apartI_bd (room := room.set k (u9 + 1)) (ps := ts.map pv)).2
  rw [hr, List.length_map] at hrb
  have h6 := boundApart_any (some ⟨g, 0, none⟩) c8 _ _ (room.set k (u9 + 1)) B1 d1 _ _ ts w10 HI9.out (by rw [HL9.out]; omega) HT.out (by omega) HNL.out HWF.out (by omega) (by omega)
  rw [hr, HL9.out] at h6
  have H6 := Lib.hid h6; clear h6 hr
  go_wp2_with fail
  refine H6.out.mono ?_; rintro e w11 ⟨rfl, hb⟩
  replace HB := Lib.hid (HB.out.trans (hb.mono (by omega)))
  clear hb
  have hrb' : r ≤ (ts.length : Int) := hrb
  go_wp2_with fail
  go_ret
  exact ⟨by simp, HB.out⟩
end Go.Proofs.Ytlkhfmpkbjemhaa
