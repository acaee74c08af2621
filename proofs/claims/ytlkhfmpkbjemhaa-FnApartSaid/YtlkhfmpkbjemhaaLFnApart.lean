/- The walk of one statement: by the contracts of what it calls it returns true and changes nothing that was there. No condition. -/
import Derived.Test.YtlkhfmpkbjemhaaSk
namespace Go.Proofs.Ytlkhfmpkbjemhaa
open Go.RowKit
set_option maxHeartbeats 2000000 in
theorem FnApart_walk (A : Option Addr) (n c : Nat) (w : World) (hA : BytesR w w.heap.size A n) (hc : n ≤ c) (hm : c ≤ maxLen) :
    Calls Try.prog 4 #[.slice A n c] w fun e w' => e = .returned (.bool true) ∧ Below w.heap.size w w' := by
  have HA := Lib.hid hA; clear hA
  by_cases hn : 1048576 < n
  · go_enter Try.func4, Try.ntmps4
    go_wp2
    go_ret
    exact ⟨by simp, Below.refl _ _⟩
  have hnd : ¬ ((1048576 : Int) < (n : Int)) := by omega
  go_enter Try.func4, Try.ntmps4
  go_wp2_with fail
  refine (DrawBoundApart_any A n c w HA.out hc hm).mono ?_; rintro e w1 ⟨A1, c1, room, B1, d1, ts, rfl, hI, hg, hT, hgt, hl, hb⟩
  have HI := Lib.hid hI; clear hI
  have HG := Lib.hid hg; clear hg
  have HT := Lib.hid hT; clear hT
  have HGT := Lib.hid hgt; clear hgt
  have HB := Lib.hid hb; clear hb
  have hs1 := HB.out.size
  have hlr : room.length ≤ 3 := Nat.le_of_eq HG.out.1
  have hnl : ∀ t, t ∈ ts → t.need.length ≤ 1048576 := fun t ht => by have := (HGT.out t ht).1.1; omega
  have HNL := Lib.hid hnl; clear hnl
  have HWF := Lib.hid (fun t ht => (HGT.out t ht).wf : ∀ t, t ∈ ts → (Lit.int .i64 t.id).wf = true)
  obtain ⟨v, hv⟩ : ∃ v, apartI room (ts.map pv) = v := ⟨_, rfl⟩
  have HVv := Lib.hid hv; clear hv
  go_wp2_with fail
  refine (boundApart_any A1 c1 _ _ room B1 d1 _ _ ts w1 HI.out (by omega) HT.out (by omega) HNL.out HWF.out (by omega) (by omega)).mono ?_; rintro e w2 ⟨rfl, hb⟩
  rw [HVv.out]
  have hsw2 := hb.size
  first | replace HI := Lib.hid (Ints.only HI.out hb (by omega) (by omega)) | replace HI := Lib.hid (Ints.below HI.out hb (by omega))
  first | replace HT := Lib.hid (Tasks.only HT.out hb (by omega) (by omega)) | replace HT := Lib.hid (Tasks.below HT.out hb (by omega))
  first | replace HB := Lib.hid (Below.trans HB.out (Below.mono hb (by omega))) | replace HB := Lib.hid (Below.trans HB.out (Only.below hb (by omega) (by omega)))
  clear hb
  go_wp2_with fail
  refine (boundApartS_any A1 c1 _ _ room B1 d1 _ _ ts w2 HI.out (by omega) HT.out (by omega) HNL.out (by omega) (by omega)).mono ?_; rintro e w3 ⟨rfl, hb⟩
  rw [HVv.out]
  have hsw3 := hb.size
  first | replace HI := Lib.hid (Ints.only HI.out hb (by omega) (by omega)) | replace HI := Lib.hid (Ints.below HI.out hb (by omega))
  first | replace HT := Lib.hid (Tasks.only HT.out hb (by omega) (by omega)) | replace HT := Lib.hid (Tasks.below HT.out hb (by omega))
  first | replace HB := Lib.hid (Below.trans HB.out (Below.mono hb (by omega))) | replace HB := Lib.hid (Below.trans HB.out (Only.below hb (by omega) (by omega)))
  clear hb
  cases hv : tasksB room (ts.map pv)
  · have hv1 : v = -1 := by rw [← HVv.out]; exact apartI_no' hv
    subst hv1
    clear hv
    go_wp2_with fail
    go_ret
    exact ⟨by simp, HB.out⟩
  have HV := Lib.hid hv; clear hv
  have hv0 : 0 ≤ v := by rw [← HVv.out]; exact apartI_lo HV.out
  by_cases hl0 : ts.length = 0
  · have hl0' : ((ts.length : Int) == 0) = true := beq_iff_eq.2 (by omega)
    have hv9 : v = 0 := by have := (apartI_bd (room := room) (ps := ts.map pv)).2; rw [HVv.out, List.length_map] at this; omega
    subst hv9
    go_wp2_with fail
    go_ret
    exact ⟨by simp, HB.out⟩
  have hl0' : ((ts.length : Int) == 0) = false := beq_eq_false_iff_ne.2 (by omega)
  obtain ⟨t0, r0, hts⟩ : ∃ t0 r0, ts = t0 :: r0 := by
    cases ts with
    | nil => simp at hl0
    | cons t r => exact ⟨t, r, rfl⟩
  have HTS := Lib.hid hts
  have hone := apart_one (room := room) (t0 := t0) (r0 := r0) (by rw [← hts]; exact HV.out)
  rw [← hts, HVv.out] at hone
  have hlen : ts.length = r0.length + 1 := by rw [hts]; rfl
  have hr0l : r0.length ≤ 15 := by omega
  have hv1 := hone.1
  have hvl : v ≤ ts.length := by have := (apartI_bd (room := room) (ps := ts.map pv)).2; rw [HVv.out, List.length_map] at this; exact this
  have HON := Lib.hid hone.2
  have HLN := Lib.hid hlen
  have h0 : ts[0]? = some t0 := by rw [hts]; rfl
  have H0 := Lib.hid h0
  have hat : ∀ j, ts[j + 1]? = r0[j]? := fun j => by rw [hts]; rfl
  have HAT := Lib.hid hat
  have hvalid : tasksB room ((t0 :: r0).map pv) = true := by rw [← hts]; exact HV.out
  have HVD := Lib.hid hvalid
  clear hone hlen hts h0 hat hvalid
  obtain ⟨b1, off1, t0', hB1, ht0, hc1, hc2, _, hbh1, hN0⟩ := HT.out.at_ (k := 0) (by omega)
  subst hB1
  obtain rfl : t0' = t0 := by have := H0.out; rw [ht0] at this; exact Option.some.inj this
  have HN0 := Lib.hid hN0; clear hN0 ht0
  go_wp2_with fail
  go_loopw [7, 8] (fun f i wr => ∃ j : Nat, j + 1 ≤ ts.length ∧ i = .int .i64 ((j : Int) + 1) ∧ f = .bool ((r0.take j).any (fun t => clashB room t0'.need t.need)) ∧ Below w3.heap.size w3 wr) (fun _ i _ => ts.length - (intOf i).toNat)
  case atStart => exact ⟨0, by omega, rfl, by simp, Below.refl _ _⟩
  case round =>
    obtain ⟨j, hj, rfl, hf, hb⟩ := hrel
    obtain ⟨f, hfe⟩ : ∃ f, (r0.take j).any (fun t => clashB room t0'.need t.need) = f := ⟨_, rfl⟩
    rw [hfe] at hf
    subst hf
    have HF := Lib.hid hfe; clear hfe
    have hs4 := hb.size
    have HL := Lib.hid hb
    replace HI := Lib.hid (HI.out.below hb (by omega))
    replace HT := Lib.hid (HT.out.below hb (by omega))
    replace HN0 := Lib.hid (HN0.out.below hb (by omega))
    replace HB := Lib.hid (HB.out.trans (hb.mono (by omega)))
    clear hb hc1 hc2
    by_cases hlt : j + 1 < ts.length
    · obtain ⟨b2, off2, t, hB2, ht, hd1, hd2, _, hbh2, hN⟩ := HT.out.at_ hlt
      simp only [Option.some.injEq, Addr.mk.injEq, and_true] at hB2
      obtain ⟨rfl, rfl⟩ := hB2
      obtain ⟨b3, off3, t3, hB3, ht3, hc1, hc2, _, hbh3, hN3⟩ := HT.out.at_ (k := 0) (by omega)
      simp only [Option.some.injEq, Addr.mk.injEq, and_true] at hB3
      obtain ⟨rfl, rfl⟩ := hB3
      obtain rfl : t3 = t0' := by have := H0.out; rw [ht3] at this; exact Option.some.inj this
      rw [HAT.out] at ht
      have HA := Lib.hid (any_snoc (p := fun t => clashB room t3.need t.need) ht)
      have hok := pair_ok HVD.out (List.mem_of_getElem? ht)
      have HOK := Lib.hid hok; clear hok
      have htm : t ∈ ts := by rw [HTS.out]; exact List.mem_cons_of_mem _ (List.mem_of_getElem? ht)
      have ht0m : t3 ∈ ts := by rw [HTS.out]; exact List.mem_cons_self ..
      have HGt := Lib.hid (HGT.out t htm)
      have HG0 := Lib.hid (HGT.out t3 ht0m)
      have HN := Lib.hid hN; clear hN hN3 ht htm ht0m ht3
      have hjl' : (j : Int) + 1 < (ts.length : Int) := by omega
      have hj0' : (0 : Int) ≤ (j : Int) + 1 := by omega
      have hl0i : (0 : Int) < (ts.length : Int) := by omega
      have hl0n : 0 < ts.length := by omega
      have hjw : IntKind.i64.wrap ((j : Int) + 1) = (j : Int) + 1 := wrap_small (by omega)
      have hjw2 : IntKind.i64.wrap ((j : Int) + 1 + 1) = (j : Int) + 1 + 1 := wrap_small (by omega)
      have H9 := Lib.hid (tasksClash_any t3.id t.id A1 t3.a t.a c1 t3.c t.c _ _ _ _ _ _ room t3.need t.need wr.drew (HI.out.drewN 1) (HN0.out.drewN 1) (HN.out.drewN 1) (by omega) (by have := HG0.out.1.1; omega) (by have := HGt.out.1.1; omega) HG0.out.wf HGt.out.wf (by show w1.heap.size ≤ wr.heap.size; omega) (by show w1.heap.size ≤ wr.heap.size; omega) (by show w1.heap.size ≤ wr.heap.size; omega))
      rw [tclash_yes HOK.out] at H9
      have hq1 : b1 < wr.drew.heap.size := by show b1 < wr.heap.size; omega
      have he1 : wr.cell? ⟨b1, off1, none⟩ = some (.int .i64 t3.id) := by simpa using hc1
      have he2 : wr.cell? ⟨b1, off1 + 1, none⟩ = some (.slice t3.a t3.need.length t3.c) := by simpa using hc2
      clear hc1 hc2
      cases f
      · go_wp2_with fail
        go_region_held3 (fun w' => w'.cell? ⟨b1, off1, none⟩ = some (.int .i64 t3.id) ∧ w'.cell? ⟨b1, off1 + 1, none⟩ = some (.slice t3.a t3.need.length t3.c) ∧ w'.cell? ⟨b1, off1 + (j + 1) * 2, none⟩ = some (.int .i64 t.id) ∧ w'.cell? ⟨b1, off1 + (j + 1) * 2 + 1, none⟩ = some (.slice t.a t.need.length t.c))
          (go_keep)
          (first | (go_at_call 17; refine H9.out.mono ?_; rintro e w5 ⟨rfl, hb5⟩; have g1 := cell_below hb5 hq1 he1; have g2 := cell_below hb5 hq1 he2; have g3 := cell_below hb5 hq1 hd1; have g4 := cell_below hb5 hq1 hd2; replace HL := Lib.hid ((Below.drewN HL.out 1).trans (hb5.mono hs4)); clear hb5))
        go_wp2_with fail
        refine ⟨⟨j + 1, by omega, by go_num, by rw [HA.out, HF.out]; rfl, HL.out⟩, by simp [intOf]; omega⟩
      · go_wp2_with fail
        go_quiet (fail)
        go_wp2_with fail
        refine ⟨⟨j + 1, by omega, by go_num, by rw [HA.out, HF.out]; rfl, Below.drewN HL.out _⟩, by simp [intOf]; omega⟩
    · have hjl : r0.take j = r0 := List.take_of_length_le (by have := HLN.out; omega)
      have hfe : (v == 1) = !f := by rw [HON.out, ← HF.out, hjl]
      have hvi : v ≤ (ts.length : Int) := hvl
      have hjn : ¬ ((j : Int) + 1 < (ts.length : Int)) := by omega
      have HFE := Lib.hid hfe
      clear hjl hfe
      go_wp2_with fail
      go_ret
      exact ⟨by simp [HFE.out], HB.out⟩
end Go.Proofs.Ytlkhfmpkbjemhaa
