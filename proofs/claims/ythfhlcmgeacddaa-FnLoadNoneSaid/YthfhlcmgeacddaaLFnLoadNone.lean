/- The walk of one statement: by the contracts of what it calls it returns true and changes nothing that was there. No condition. -/
import Derived.Test.YthfhlcmgeacddaaAp
namespace Go.Proofs.Ythfhlcmgeacddaa
open Go.RowKit
set_option maxHeartbeats 2000000 in
theorem FnLoadNone_walk (A : Option Addr) (n c : Nat) (w : World) (hA : BytesR w w.heap.size A n) (hc : n ≤ c) (hm : c ≤ maxLen) :
    Calls Try.prog 13 #[.slice A n c] w fun e w' => e = .returned (.bool true) ∧ Below w.heap.size w w' := by
  have HA := Lib.hid hA; clear hA
  by_cases hn : 1048576 < n
  · go_enter Try.func13, Try.ntmps13
    go_wp2
    go_ret
    exact ⟨by simp, Below.refl _ _⟩
  have hnd : ¬ ((1048576 : Int) < (n : Int)) := by omega
  go_enter Try.func13, Try.ntmps13
  go_wp2_with fail
  refine (DrawBinLoad_any A n c w HA.out hc hm).mono ?_; rintro e w1 ⟨A1, c1, room, B1, d1, ts, rfl, hI, hg, hT, hgt, hl, hb⟩
  have HI := Lib.hid hI; clear hI
  have HG := Lib.hid hg; clear hg
  have HT := Lib.hid hT; clear hT
  have HGT := Lib.hid hgt; clear hgt
  have HB := Lib.hid hb; clear hb
  have hs1 := HB.out.size
  have hlr : room.length ≤ 3 := Nat.le_of_eq HG.out.1
  have hnl : ∀ t, t ∈ ts → t.need.length ≤ 1048576 := fun t ht => by have := (HGT.out t ht).1.1; omega
  have HNL := Lib.hid hnl; clear hnl
  have HWF := Lib.hid (fun t ht => (HGT.out t ht).wf : ∀ t, t ∈ ts → (Lit.int .i64 t.id).wf = true)
  cases hv : tasksB room (ts.map pv)
  · have h5 := binLoad_any A1 c1 _ _ room B1 d1 _ _ ts w1 HI.out (by omega) HT.out (by omega) HNL.out HWF.out (by omega) (by omega)
    rw [binLoad_no hv] at h5
    have H5 := Lib.hid h5; clear h5
    go_wp2_with fail
    refine H5.out.mono ?_; rintro e w2 ⟨A2, c2, rfl, hI2, hb⟩
    have hs2 := hb.size
    first | replace HI := Lib.hid (Ints.only HI.out hb (by omega) (by omega)) | replace HI := Lib.hid (Ints.below HI.out hb (by omega))
    first | replace HT := Lib.hid (Tasks.only HT.out hb (by omega) (by omega)) | replace HT := Lib.hid (Tasks.below HT.out hb (by omega))
    first | replace HB := Lib.hid (Below.trans HB.out (Below.mono hb (by omega))) | replace HB := Lib.hid (Below.trans HB.out (Only.below hb (by omega) (by omega)))
    clear hb H5
    have HI2 := Lib.hid hI2; clear hI2
    have h6 := binLoadS_any A1 c1 _ _ room B1 d1 _ _ ts w2 HI.out (by omega) HT.out (by omega) HNL.out (by omega) (by omega)
    rw [binLoad_no hv] at h6
    have H6 := Lib.hid h6; clear h6 hv
    go_wp2_with fail
    refine H6.out.mono ?_; rintro e w3 ⟨A3, c3, rfl, hI3, hb⟩
    have hs3 := hb.size
    first | replace HI2 := Lib.hid (Ints.only HI2.out hb (by omega) (by omega)) | replace HI2 := Lib.hid (Ints.below HI2.out hb (by omega))
    first | replace HB := Lib.hid (Below.trans HB.out (Below.mono hb (by omega))) | replace HB := Lib.hid (Below.trans HB.out (Only.below hb (by omega) (by omega)))
    clear hb H6
    have HI3 := Lib.hid hI3; clear hI3
    go_wp2_with fail
    refine (sameInts_eq A2 A3 c2 c3 _ _ _ _ [] w3 HI2.out HI3.out (by simp)).mono ?_; rintro e w4 ⟨rfl, hd⟩
    replace HB := Lib.hid (HB.out.trans ((drawn_below hd).mono HB.out.size))
    replace HI2 := Lib.hid (HI2.out.below (drawn_below hd) (by omega))
    replace HI3 := Lib.hid (HI3.out.below (drawn_below hd) (by omega))
    clear hd
    go_wp2_with fail
    refine (sameInts_eq A2 A3 c2 c3 _ _ _ _ [] w4 HI2.out HI3.out (by simp)).mono ?_; rintro e w5 ⟨rfl, hd⟩
    replace HB := Lib.hid (HB.out.trans ((drawn_below hd).mono HB.out.size))
    clear hd
    go_wp2_with fail
    go_ret
    exact ⟨by simp, HB.out⟩
  have HV := Lib.hid hv; clear hv
  have h5 := binLoad_any A1 c1 _ _ room B1 d1 _ _ ts w1 HI.out (by omega) HT.out (by omega) HNL.out HWF.out (by omega) (by omega)
  rw [binLoad_yes HV.out] at h5
  have H5 := Lib.hid h5; clear h5
  go_wp2_with fail
  refine H5.out.mono ?_; rintro e w2 ⟨A2, c2, rfl, hI2, hb⟩
  rw [loadL_len]
  have hs2 := hb.size
  first | replace HI := Lib.hid (Ints.only HI.out hb (by omega) (by omega)) | replace HI := Lib.hid (Ints.below HI.out hb (by omega))
  first | replace HT := Lib.hid (Tasks.only HT.out hb (by omega) (by omega)) | replace HT := Lib.hid (Tasks.below HT.out hb (by omega))
  first | replace HB := Lib.hid (Below.trans HB.out (Below.mono hb (by omega))) | replace HB := Lib.hid (Below.trans HB.out (Only.below hb (by omega) (by omega)))
  clear hb H5
  have HI2 := Lib.hid hI2; clear hI2
  have h6 := binLoadS_any A1 c1 _ _ room B1 d1 _ _ ts w2 HI.out (by omega) HT.out (by omega) HNL.out (by omega) (by omega)
  rw [binLoad_yes HV.out] at h6
  have H6 := Lib.hid h6; clear h6
  go_wp2_with fail
  refine H6.out.mono ?_; rintro e w3 ⟨A3, c3, rfl, hI3, hb⟩
  rw [loadL_len]
  have hs3 := hb.size
  first | replace HI := Lib.hid (Ints.only HI.out hb (by omega) (by omega)) | replace HI := Lib.hid (Ints.below HI.out hb (by omega))
  first | replace HT := Lib.hid (Tasks.only HT.out hb (by omega) (by omega)) | replace HT := Lib.hid (Tasks.below HT.out hb (by omega))
  first | replace HI2 := Lib.hid (Ints.only HI2.out hb (by omega) (by omega)) | replace HI2 := Lib.hid (Ints.below HI2.out hb (by omega))
  first | replace HB := Lib.hid (Below.trans HB.out (Below.mono hb (by omega))) | replace HB := Lib.hid (Below.trans HB.out (Only.below hb (by omega) (by omega)))
  clear hb H6
  have HI3 := Lib.hid hI3; clear hI3
  have h7 := sameInts_eq A2 A3 c2 c3 _ _ _ _ (loadL (needs ts)) w3 HI2.out HI3.out (by rw [loadL_len]; omega)
  rw [loadL_len] at h7
  have H7 := Lib.hid h7; clear h7
  go_wp2_with fail
  refine H7.out.mono ?_; rintro e w4 ⟨rfl, hd⟩
  have hb := drawn_below hd; clear hd H7
  have hs4 := hb.size
  first | replace HI := Lib.hid (Ints.only HI.out hb (by omega) (by omega)) | replace HI := Lib.hid (Ints.below HI.out hb (by omega))
  first | replace HT := Lib.hid (Tasks.only HT.out hb (by omega) (by omega)) | replace HT := Lib.hid (Tasks.below HT.out hb (by omega))
  first | replace HI2 := Lib.hid (Ints.only HI2.out hb (by omega) (by omega)) | replace HI2 := Lib.hid (Ints.below HI2.out hb (by omega))
  first | replace HI3 := Lib.hid (Ints.only HI3.out hb (by omega) (by omega)) | replace HI3 := Lib.hid (Ints.below HI3.out hb (by omega))
  first | replace HB := Lib.hid (Below.trans HB.out (Below.mono hb (by omega))) | replace HB := Lib.hid (Below.trans HB.out (Only.below hb (by omega) (by omega)))
  clear hb
  have hlw : IntKind.i64.wrap ((ts.length : Int) - 1) = (ts.length : Int) - 1 := wrap_small (by omega)
  go_wp2_with fail
  obtain ⟨w5, hw5⟩ : ∃ W, W = w4.alloc (.cells #[] 25) := ⟨_, rfl⟩
  rw [← hw5]
  have hb : Below w4.heap.size w4 w5 := by rw [hw5]; exact (Below.refl _ _).alloc (Nat.le_refl _) _
  have HW0 : Hid (w5.ownsRow w4.heap.size 25 2 (.slice (some ⟨w4.heap.size, 0, none⟩) 0 0) 0 []) := Lib.hid (by rw [hw5]; exact ownsRow_empty w4 _ 2)
  have hs5 := hb.size
  first | replace HI := Lib.hid (Ints.only HI.out hb (by omega) (by omega)) | replace HI := Lib.hid (Ints.below HI.out hb (by omega))
  first | replace HT := Lib.hid (Tasks.only HT.out hb (by omega) (by omega)) | replace HT := Lib.hid (Tasks.below HT.out hb (by omega))
  first | replace HI2 := Lib.hid (Ints.only HI2.out hb (by omega) (by omega)) | replace HI2 := Lib.hid (Ints.below HI2.out hb (by omega))
  first | replace HI3 := Lib.hid (Ints.only HI3.out hb (by omega) (by omega)) | replace HI3 := Lib.hid (Ints.below HI3.out hb (by omega))
  first | replace HB := Lib.hid (Below.trans HB.out (Below.mono hb (by omega))) | replace HB := Lib.hid (Below.trans HB.out (Only.below hb (by omega) (by omega)))
  clear hb hw5
  go_loopw [7, 8] (fun x i wr => ∃ j : Nat, ∃ A' c', ∃ xs : List TaskV, j ≤ ts.length ∧ i = .int .i64 ((ts.length : Int) - 1 - j) ∧ x = .slice A' j c' ∧ xs = ts.reverse.take j ∧ xs.length = j ∧
      wr.ownsRow w4.heap.size 25 2 (.slice A' j c') j (trow xs) ∧ Below w4.heap.size w5 wr) (fun _ i _ => ((intOf i) + 1).toNat)
  case atStart => exact ⟨0, _, 0, [], by omega, by simp, rfl, by simp, rfl, HW0.out, Below.refl _ _⟩
  case round =>
    obtain ⟨j, A', c', xs, hj, rfl, rfl, hxs, hxl, hown, hb⟩ := hrel
    have HXS := Lib.hid hxs; clear hxs
    have HXL := Lib.hid hxl; clear hxl
    have HW := Lib.hid hown; clear hown
    have hs6 := hb.size
    first | replace HI := Lib.hid (Ints.only HI.out hb (by omega) (by omega)) | replace HI := Lib.hid (Ints.below HI.out hb (by omega))
    first | replace HT := Lib.hid (Tasks.only HT.out hb (by omega) (by omega)) | replace HT := Lib.hid (Tasks.below HT.out hb (by omega))
    first | replace HI2 := Lib.hid (Ints.only HI2.out hb (by omega) (by omega)) | replace HI2 := Lib.hid (Ints.below HI2.out hb (by omega))
    first | replace HI3 := Lib.hid (Ints.only HI3.out hb (by omega) (by omega)) | replace HI3 := Lib.hid (Ints.below HI3.out hb (by omega))
    first | replace HB := Lib.hid (Below.trans HB.out (Below.mono hb (by omega))) | replace HB := Lib.hid (Below.trans HB.out (Only.below hb (by omega) (by omega)))
    have HL := Lib.hid hb; clear hb
    by_cases hlt : j < ts.length
    · obtain ⟨i, hi⟩ : ∃ i : Nat, (ts.length : Int) - 1 - j = i ∧ i = ts.length - 1 - j := ⟨ts.length - 1 - j, by omega, rfl⟩
      obtain ⟨b1, off1, t, rfl, ht, hc1, hc2, _, hbh1, hN1⟩ := HT.out.at_ (k := i) (by omega)
      have hrev : ts.reverse[j]? = some t := by rw [List.getElem?_reverse hlt, ← ht, hi.2]
      have HRV := Lib.hid (take_succ_some hrev)
      have hil : (i : Int) < ts.length := by omega
      have hi1 := hi.1
      have hin : (0 : Int) ≤ (i : Int) := by omega
      have hiw : IntKind.i64.wrap ((i : Int) - 1) = (i : Int) - 1 := wrap_small (by omega)
      clear hi hrev ht hN1
      rw [hi1]
      go_wp2_with (at_builtin; refine wpList_app1 elT rfl (.tmp 43) (.tmp 48) rfl wr _ HW.out [.int .i64 t.id, .slice t.a t.need.length t.c] rfl rfl ⟨rfl, rfl, rfl, rfl⟩ rfl (trow_one [t]) (by omega) (by simp only [maxLen]; omega) (by omega) ?_; intro gg cap2 w9 hown2 hb2 hg2 _ _; have HW2 := Lib.hid hown2; have HB2 := Lib.hid hb2; clear hown2 hg2 hb2)
      refine ⟨⟨j + 1, _, cap2, xs ++ [t], by omega, by rw [← hi1]; congr 1; omega, rfl, by rw [HXS.out]; exact HRV.out.symm, by rw [List.length_append, HXL.out]; rfl, by rw [trow_app]; exact HW2.out, HL.out.trans HB2.out⟩, ?_⟩
      simp only [intOf]
      omega
    · have hjn : j = ts.length := by omega
      have hxr : xs = ts.reverse := by rw [HXS.out, List.take_of_length_le (by simp; omega)]
      have hneg : (ts.length : Int) - 1 - j = -1 := by omega
      have hX : Tasks wr 0 wr.heap.size A' c' xs := by
        have hown := HW.out
        rw [← HXL.out] at hown
        obtain ⟨A9, c9, he9, hT9⟩ := Tasks.of_own (ownsRow_base hown (Nat.zero_le _)) (fun t ht => by
          have hm : t ∈ ts := by rw [hxr] at ht; exact List.mem_reverse.1 ht
          exact (HT.out.2 t hm).mono (Nat.zero_le _) (by omega))
        simp only [Value.slice.injEq] at he9
        obtain ⟨rfl, -, rfl⟩ := he9
        exact hT9
      have HX := Lib.hid hX
      have htx : tasksB room (xs.map pv) = true := tasksB_iff.2 ((tasksB_iff.1 HV.out).perm (by rw [hxr]; exact (List.reverse_perm ts).map pv))
      have HTX := Lib.hid htx
      have hle : loadL (needs xs) = loadL (needs ts) := loadL_perm (by rw [hxr]; exact (List.reverse_perm ts).map _)
      have HLE := Lib.hid hle
      have hmx : ∀ t, t ∈ xs → t ∈ ts := by intro t ht; rw [hxr] at ht; exact List.mem_reverse.1 ht
      have HMX := Lib.hid hmx
      have h8 := binLoad_any A1 c1 _ _ room A' c' _ _ xs wr HI.out (by omega) HX.out (by rw [HXL.out]; omega) (fun t ht => HNL.out t (HMX.out t ht)) (fun t ht => HWF.out t (HMX.out t ht)) (by omega) (Nat.le_refl _)
      rw [binLoad_yes HTX.out, HLE.out, HXL.out] at h8
      have H8 := Lib.hid h8
      rw [hneg]
      clear hX htx hle hmx h8 hxr hjn hneg
      go_wp2_with fail
      refine H8.out.mono ?_; rintro e w9 ⟨A9, c9, rfl, hI9, hb⟩
      rw [loadL_len]
      have hs9 := hb.size
      first | replace HI := Lib.hid (Ints.only HI.out hb (by omega) (by omega)) | replace HI := Lib.hid (Ints.below HI.out hb (by omega))
      first | replace HI2 := Lib.hid (Ints.only HI2.out hb (by omega) (by omega)) | replace HI2 := Lib.hid (Ints.below HI2.out hb (by omega))
      first | replace HB := Lib.hid (Below.trans HB.out (Below.mono hb (by omega))) | replace HB := Lib.hid (Below.trans HB.out (Only.below hb (by omega) (by omega)))
      have HI9 := Lib.hid hI9
      clear hb hI9 HX H8 HT
      have h7 := sameInts_eq A9 A2 c9 c2 _ _ _ _ (loadL (needs ts)) w9 HI9.out HI2.out (by rw [loadL_len]; omega)
      rw [loadL_len] at h7
      have H7 := Lib.hid h7; clear h7
      go_wp2_with fail
      refine H7.out.mono ?_; rintro e w10 ⟨rfl, hd⟩
      have hb := drawn_below hd; clear hd H7
      have hs10 := hb.size
      first | replace HI := Lib.hid (Ints.only HI.out hb (by omega) (by omega)) | replace HI := Lib.hid (Ints.below HI.out hb (by omega))
      first | replace HB := Lib.hid (Below.trans HB.out (Below.mono hb (by omega))) | replace HB := Lib.hid (Below.trans HB.out (Only.below hb (by omega) (by omega)))
      clear hb HI9 HI2 HI3
      go_wp2_with fail
      obtain ⟨w11, hw11⟩ : ∃ W, W = w10.alloc (.cells #[] 25) := ⟨_, rfl⟩
      rw [← hw11]
      have hb : Below w10.heap.size w10 w11 := by rw [hw11]; exact (Below.refl _ _).alloc (Nat.le_refl _) _
      have hs11 := hb.size
      first | replace HI := Lib.hid (Ints.only HI.out hb (by omega) (by omega)) | replace HI := Lib.hid (Ints.below HI.out hb (by omega))
      first | replace HB := Lib.hid (Below.trans HB.out (Below.mono hb (by omega))) | replace HB := Lib.hid (Below.trans HB.out (Only.below hb (by omega) (by omega)))
      clear hb hw11
      have htn : tasksB room (([] : List TaskV).map pv) = true := tasksB_iff.2 (TasksOk.nil (tasks_room HV.out))
      have h9 := binLoad_any A1 c1 _ _ room (some ⟨w10.heap.size, 0, none⟩) 0 0 0 [] w11 HI.out (by omega) ⟨⟨Nat.le_refl _, by simp [maxLen], rfl, .inl rfl⟩, by simp⟩ (by simp) (by simp) (by simp) (by omega) (Nat.zero_le _)
      rw [binLoad_yes htn] at h9
      have H9 := Lib.hid h9; clear h9 htn
      refine H9.out.mono ?_; rintro e w12 ⟨A12, c12, rfl, hI12, hb⟩
      rw [loadL_len]
      have hs12 := hb.size
      first | replace HB := Lib.hid (Below.trans HB.out (Below.mono hb (by omega))) | replace HB := Lib.hid (Below.trans HB.out (Only.below hb (by omega) (by omega)))
      have HI12 := Lib.hid hI12
      clear hb hI12 H9
      go_wp2_with fail
      obtain ⟨w13, hw13⟩ : ∃ W, W = w12.alloc (.cells #[.int .i64 0, .int .i64 0, .int .i64 0] 3) := ⟨_, rfl⟩
      rw [← hw13]
      have hb : Below w12.heap.size w12 w13 := by rw [hw13]; exact (Below.refl _ _).alloc (Nat.le_refl _) _
      have HL3 : Hid (Ints w13 0 w13.heap.size (some ⟨w12.heap.size, 0, none⟩) 3 [0, 0, 0]) := Lib.hid (by rw [hw13]; exact ints_lit3 w12 _ _ _ _)
      have hs13 := hb.size
      first | replace HB := Lib.hid (Below.trans HB.out (Below.mono hb (by omega))) | replace HB := Lib.hid (Below.trans HB.out (Only.below hb (by omega) (by omega)))
      first | replace HI12 := Lib.hid (Ints.only HI12.out hb (by omega) (by omega)) | replace HI12 := Lib.hid (Ints.below HI12.out hb (by omega))
      clear hb hw13
      have h7 := sameInts_eq A12 (some ⟨w12.heap.size, 0, none⟩) c12 3 _ _ _ _ [0, 0, 0] w13 HI12.out HL3.out (by simp)
      have H7 := Lib.hid h7; clear h7
      refine H7.out.mono ?_; rintro e w14 ⟨rfl, hd⟩
      have hb := drawn_below hd; clear hd H7
      first | replace HB := Lib.hid (Below.trans HB.out (Below.mono hb (by omega))) | replace HB := Lib.hid (Below.trans HB.out (Only.below hb (by omega) (by omega)))
      clear hb
      go_wp2_with fail
      go_ret
      exact ⟨by simp, HB.out⟩
end Go.Proofs.Ythfhlcmgeacddaa
