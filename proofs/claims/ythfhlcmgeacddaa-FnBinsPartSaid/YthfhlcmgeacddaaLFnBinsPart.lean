/- The walk of one statement: by the contracts of what it calls it returns true and changes nothing that was there. No condition. -/
import Derived.Test.YthfhlcmgeacddaaDn
namespace Go.Proofs.Ythfhlcmgeacddaa
open Go.RowKit
theorem bflat_two (bs : List BinV) (k j : Nat) : (bflat (bs.take k ++ bs.drop j)).length ≤ 2 * (bflat bs).length ∧ ∀ t, t ∈ bflat (bs.take k ++ bs.drop j) → t ∈ bflat bs := by
  have h : bs = bs.take j ++ bs.drop j := (List.take_append_drop j bs).symm
  have h2 := bflat_len (bs := bs) k
  have h3 : (bflat bs).length = (bflat (bs.take j)).length + (bflat (bs.drop j)).length := by
    conv => lhs; rw [h]
    simp only [bflat, List.flatMap_append, List.length_append]
  constructor
  · simp only [bflat, List.flatMap_append, List.length_append] at *; omega
  · intro t ht
    obtain ⟨b, hb, hb2⟩ := List.mem_flatMap.1 ht
    refine List.mem_flatMap.2 ⟨b, ?_, hb2⟩
    rcases List.mem_append.1 hb with h | h
    · exact List.mem_of_mem_take h
    · exact List.mem_of_mem_drop h
theorem bcell_one (bs : List BinV) : ∀ u ∈ bs.map bcell, u.oneCell' = true := by
  intro u hu
  obtain ⟨b, _, rfl⟩ := List.mem_map.1 hu
  rfl
theorem Bins.take {w : World} {lo hi c : Nat} {A : Option Addr} {bs : List BinV} (h : Bins w lo hi A c bs) {k : Nat} (hk : k ≤ bs.length) : Bins w lo hi A c (bs.take k) := by
  refine ⟨?_, fun t ht => h.2 t (List.mem_of_mem_take ht)⟩
  have := h.1.take hk
  rw [Nat.mul_one, ← List.map_take] at this
  rwa [List.length_take, Nat.min_eq_left hk]
theorem Bins.drop {w : World} {lo hi c : Nat} {A : Option Addr} {bs : List BinV} (h : Bins w lo hi A c bs) {k : Nat} (hk : k ≤ bs.length) : Bins w lo hi (if c = k then A else A.map (·.add k)) (c - k) (bs.drop k) := by
  refine ⟨?_, fun t ht => h.2 t (List.mem_of_mem_drop ht)⟩
  have := h.1.drop hk
  rw [Nat.mul_one, ← List.map_drop] at this
  rwa [List.length_drop]
theorem FnBinsPart_walk (A : Option Addr) (n c : Nat) (B : Option Addr) (m d : Nat) (w : World) (hA : BytesR w w.heap.size A n) (hc : n ≤ c) (hm : c ≤ maxLen) (_hB : BytesR w w.heap.size B m) (_hd : m ≤ d) (_hm2 : d ≤ maxLen) :
    Calls Try.prog 14 #[.slice A n c, .slice B m d] w fun e w' => e = .returned (.bool true) ∧ Below w.heap.size w w' := by
  have HA := Lib.hid hA; clear hA
  by_cases hn : 1048576 < n
  · go_enter Try.func14, Try.ntmps14
    go_wp2
    go_ret
    exact ⟨by simp, Below.refl _ _⟩
  have hnd : ¬ ((1048576 : Int) < (n : Int)) := by omega
  by_cases hmm : 1048576 < m
  · go_enter Try.func14, Try.ntmps14
    go_wp2
    go_ret
    exact ⟨by simp, Below.refl _ _⟩
  have hmd : ¬ ((1048576 : Int) < (m : Int)) := by omega
  go_enter Try.func14, Try.ntmps14
  go_wp2_with fail
  refine (DrawBinsValid_any A n c w HA.out hc hm).mono ?_; rintro e w1 ⟨A1, c1, room, B1, d1, bs, rfl, hI, hg, hT, hgt, hl, hf, hb⟩
  have HI := Lib.hid hI; clear hI
  have HG := Lib.hid hg; clear hg
  have HT := Lib.hid hT; clear hT
  have HGT := Lib.hid hgt; clear hgt
  have HB := Lib.hid hb; clear hb
  have hs1 := HB.out.size
  have hlr : room.length ≤ 3 := Nat.le_of_eq HG.out.1
  have hnl : ∀ t, t ∈ bflat bs → t.need.length ≤ 1048576 := fun t ht => by have := (HGT.out t ht).1.1; omega
  have HNL := Lib.hid hnl; clear hnl
  go_wp2_with fail
  refine (binsValid_any A1 c1 _ _ room B1 d1 _ _ bs w1 HI.out (by omega) HT.out (by omega) (by omega) HNL.out (fun t ht => (HGT.out t ht).wf) (Nat.le_refl _) (Nat.le_refl _)).mono ?_; rintro e w2 ⟨rfl, hb⟩
  have hs2 := hb.size
  first | replace HI := Lib.hid (Ints.only HI.out hb (by omega) (by omega)) | replace HI := Lib.hid (Ints.below HI.out hb (by omega))
  first | replace HT := Lib.hid (Bins.only HT.out hb (by omega) (by omega)) | replace HT := Lib.hid (Bins.below HT.out hb (by omega))
  first | replace HB := Lib.hid (Below.trans HB.out (Below.mono hb (by omega))) | replace HB := Lib.hid (Below.trans HB.out (Only.below hb (by omega) (by omega)))
  clear hb
  go_wp2_with fail
  refine (binsValidS_any A1 c1 _ _ room B1 d1 _ _ bs w2 HI.out (by omega) HT.out (by omega) (by omega) HNL.out (by omega) (by omega)).mono ?_; rintro e w3 ⟨rfl, hb⟩
  have hs3 := hb.size
  first | replace HI := Lib.hid (Ints.only HI.out hb (by omega) (by omega)) | replace HI := Lib.hid (Ints.below HI.out hb (by omega))
  first | replace HT := Lib.hid (Bins.only HT.out hb (by omega) (by omega)) | replace HT := Lib.hid (Bins.below HT.out hb (by omega))
  first | replace HB := Lib.hid (Below.trans HB.out (Below.mono hb (by omega))) | replace HB := Lib.hid (Below.trans HB.out (Only.below hb (by omega) (by omega)))
  clear hb
  cases hv : binsB room (bs.map bpv)
  · go_wp2_with fail
    go_ret
    exact ⟨by simp, HB.out⟩
  have HV := Lib.hid hv; clear hv
  by_cases hl0 : bs.length = 0
  · have hl0' : (bs.length : Int) = 0 := by omega
    go_wp2_with fail
    go_ret
    exact ⟨by simp, HB.out⟩
  have hl0' : ((bs.length : Int) == 0) = false := by simp only [beq_eq_false_iff_ne, ne_eq]; omega
  obtain ⟨k, hk, hkl⟩ : ∃ k : Nat, (m : Int).tmod (bs.length : Int) = k ∧ k < bs.length := ⟨m % bs.length, by rw [Int.ofNat_tmod], Nat.mod_lt _ (by omega)⟩
  have hkl' : (k : Int) < bs.length := by omega
  have hk1 : IntKind.i64.wrap ((k : Int) + 1) = (k : Int) + 1 := wrap_small (by omega)
  have hdl1 := HT.out.len.1
  have hkd : k ≤ d1 := by omega
  have hkd1 : k + 1 ≤ d1 := by omega
  have hkdi : (k : Int) + 1 ≤ d1 := by omega
  have hk0 : (0 : Int) ≤ (k : Int) + 1 := by omega
  have hk0' : (0 : Int) ≤ (k : Int) := by omega
  have hkt : (k : Int) + 1 ≤ bs.length := by omega
  have hkt' : (k : Int) ≤ bs.length := by omega
  obtain ⟨wa, hwa⟩ : ∃ W, W = (w3.alloc (.cells #[] 36)).drew := ⟨_, rfl⟩
  have hal : Below w3.heap.size w3 wa := by rw [hwa]; exact ((Below.refl _ _).alloc (Nat.le_refl _) _).drew
  have hsaa := hal.size
  have HT0 := Lib.hid (HT.out.below hal (by omega))
  have HO0 : Hid (wa.ownsRow w3.heap.size 36 1 (.slice (some ⟨w3.heap.size, 0, none⟩) 0 0) 0 []) := Lib.hid (by rw [hwa]; exact ownsRow_heap (ownsRow_empty w3 36 1) rfl)
  have HWa := Lib.hid hwa
  have HBa := Lib.hid hal
  clear hwa hal
  go_wp2_with fail
  go_region_held3 (fun _ => True) (trivial)
    (first
      | (rw [← HWa.out]; refine step_appC elB rfl (.tmp 51) (.tmp 54) rfl wa HO0.out B1 (k) d1 ((bs.take (k)).map bcell) rfl rfl (by have := (HT0.out.take (k := k) (by omega)).1; rwa [List.length_take, Nat.min_eq_left (by omega)] at this) (bcell_one _) (by omega) (by simp only [maxLen]; omega) (by omega) ?_; intro A2 c2 w4 hown2 hb2 hg2; have HW2 := Lib.hid hown2; have HT1 := Lib.hid (HT0.out.below hb2 (by omega)); have hs4a := hb2.size; have HB2 := Lib.hid hb2; clear hown2 hb2 hg2)
      | (refine step_appC elB rfl (.tmp 55) (.tmp 59) rfl w4 HW2.out _ (bs.length - (k + 1)) (d1 - (k + 1)) ((bs.drop (k + 1)).map bcell) rfl rfl (by have := (HT1.out.drop (k := k + 1) (by omega)).1; rwa [List.length_drop] at this) (bcell_one _) (by omega) (by simp only [maxLen]; omega) (by omega) ?_; intro A3 c3 w5 hown3 hb3 hg3; have HW3 := Lib.hid hown3; have HB3 := Lib.hid hb3; have hs5a := hb3.size; clear hown3 hb3 hg3))
  clear HO0
  generalize (if d1 = k + 1 then B1 else Option.map (fun x => { block := x.block, off := x.off + (k + 1) }) B1) = B2a
  have hbB : Below w3.heap.size w3 w5 := HBa.out.trans (HB2.out.trans HB3.out)
  have hel : 0 + (k) + (bs.length - (k + 1)) = (bs.take (k) ++ bs.drop (k + 1)).length := by simp only [List.length_append, List.length_take, List.length_drop]; omega
  have HOX : Hid (w5.ownsRow w.heap.size 36 1 (.slice A3 (0 + (k) + (bs.length - (k + 1))) c3) (bs.take (k) ++ bs.drop (k + 1)).length ((bs.take (k) ++ bs.drop (k + 1)).map bcell)) := Lib.hid (by
    have := HW3.out
    rw [List.nil_append, ← List.map_append] at this
    rw [← hel]; exact ownsRow_base this (by omega))
  obtain ⟨A9, c9, he9, hC9⟩ := Cells.of_own HOX.out
  have hT9 : Bins w5 w.heap.size w5.heap.size A9 c9 (bs.take (k) ++ bs.drop (k + 1)) := ⟨hC9, fun b hb => by
    have hm : b ∈ bs := by
      rcases List.mem_append.1 hb with h | h
      · exact List.mem_of_mem_take h
      · exact List.mem_of_mem_drop h
    exact ((HT.out.2 b hm).below hbB (by omega)).mono (by omega) (by omega)⟩
  simp only [Value.slice.injEq] at he9
  obtain ⟨rfl, -, rfl⟩ := he9
  have hfx := bflat_two bs (k) (k + 1)
  obtain ⟨xs, hxs⟩ : ∃ xs, xs = bs.take (k) ++ bs.drop (k + 1) := ⟨_, rfl⟩
  rw [← hxs] at hel hT9 hfx
  have hlx : k + (bs.length - (k + 1)) = xs.length := by omega
  have hlx' : xs.length ≤ bs.length + 1 := by omega
  rw [hlx]
  obtain ⟨hf1a, hf2⟩ := hfx
  have HFa := Lib.hid hf2
  have HXS := Lib.hid hxs
  have HX := Lib.hid hT9
  have HBX := Lib.hid hbB
  replace HI := Lib.hid (HI.out.below hbB (by omega))
  replace HT := Lib.hid (HT.out.below hbB (by omega))
  replace HB := Lib.hid (HB.out.trans (hbB.mono (by omega)))
  clear hxs hel hT9 hC9 hbB HOX HW2 HW3 HT0 HT1 HWa HBa HB2 HB3 hlx hf2
  obtain ⟨wb, hwa⟩ : ∃ W, W = (w5.alloc (.cells #[] 36)).drew := ⟨_, rfl⟩
  have hal : Below w5.heap.size w5 wb := by rw [hwa]; exact ((Below.refl _ _).alloc (Nat.le_refl _) _).drew
  have hsab := hal.size
  have HT0 := Lib.hid (HT.out.below hal (by omega))
  have HO0 : Hid (wb.ownsRow w5.heap.size 36 1 (.slice (some ⟨w5.heap.size, 0, none⟩) 0 0) 0 []) := Lib.hid (by rw [hwa]; exact ownsRow_heap (ownsRow_empty w5 36 1) rfl)
  have HWa := Lib.hid hwa
  have HBa := Lib.hid hal
  clear hwa hal
  go_wp2_with fail
  go_region_held3 (fun _ => True) (trivial)
    (first
      | (rw [← HWa.out]; refine step_appC elB rfl (.tmp 61) (.tmp 65) rfl wb HO0.out B1 (k + 1) d1 ((bs.take (k + 1)).map bcell) rfl rfl (by have := (HT0.out.take (k := k + 1) (by omega)).1; rwa [List.length_take, Nat.min_eq_left (by omega)] at this) (bcell_one _) (by omega) (by simp only [maxLen]; omega) (by omega) ?_; intro A2 c2 w6 hown2 hb2 hg2; have HW2 := Lib.hid hown2; have HT1 := Lib.hid (HT0.out.below hb2 (by omega)); have hs4b := hb2.size; have HB2 := Lib.hid hb2; clear hown2 hb2 hg2)
      | (refine step_appC elB rfl (.tmp 66) (.tmp 69) rfl w6 HW2.out _ (bs.length - (k)) (d1 - (k)) ((bs.drop (k)).map bcell) rfl rfl (by have := (HT1.out.drop (k := k) (by omega)).1; rwa [List.length_drop] at this) (bcell_one _) (by omega) (by simp only [maxLen]; omega) (by omega) ?_; intro A4 c4 w7 hown3 hb3 hg3; have HW3 := Lib.hid hown3; have HB3 := Lib.hid hb3; have hs5b := hb3.size; clear hown3 hb3 hg3))
  clear HO0
  generalize (if d1 = k then B1 else Option.map (fun x => x.add k) B1) = B2b
  have hbB : Below w5.heap.size w5 w7 := HBa.out.trans (HB2.out.trans HB3.out)
  have hel : 0 + (k + 1) + (bs.length - (k)) = (bs.take (k + 1) ++ bs.drop (k)).length := by simp only [List.length_append, List.length_take, List.length_drop]; omega
  have HOX : Hid (w7.ownsRow w.heap.size 36 1 (.slice A4 (0 + (k + 1) + (bs.length - (k))) c4) (bs.take (k + 1) ++ bs.drop (k)).length ((bs.take (k + 1) ++ bs.drop (k)).map bcell)) := Lib.hid (by
    have := HW3.out
    rw [List.nil_append, ← List.map_append] at this
    rw [← hel]; exact ownsRow_base this (by omega))
  obtain ⟨A9, c9, he9, hC9⟩ := Cells.of_own HOX.out
  have hT9 : Bins w7 w.heap.size w7.heap.size A9 c9 (bs.take (k + 1) ++ bs.drop (k)) := ⟨hC9, fun b hb => by
    have hm : b ∈ bs := by
      rcases List.mem_append.1 hb with h | h
      · exact List.mem_of_mem_take h
      · exact List.mem_of_mem_drop h
    exact ((HT.out.2 b hm).below hbB (by omega)).mono (by omega) (by omega)⟩
  simp only [Value.slice.injEq] at he9
  obtain ⟨rfl, -, rfl⟩ := he9
  have hfx := bflat_two bs (k + 1) (k)
  obtain ⟨ys, hxs⟩ : ∃ xs, xs = bs.take (k + 1) ++ bs.drop (k) := ⟨_, rfl⟩
  rw [← hxs] at hel hT9 hfx
  have hlx : k + 1 + (bs.length - k) = ys.length := by omega
  have hlx' : ys.length ≤ bs.length + 1 := by omega
  rw [hlx]
  obtain ⟨hf1b, hf2⟩ := hfx
  have HFb := Lib.hid hf2
  have HYS := Lib.hid hxs
  have HY := Lib.hid hT9
  have HBX := Lib.hid hbB
  replace HI := Lib.hid (HI.out.below hbB (by omega))
  replace HT := Lib.hid (HT.out.below hbB (by omega))
  replace HB := Lib.hid (HB.out.trans (hbB.mono (by omega)))
  clear hxs hel hT9 hC9 hbB HOX HW2 HW3 HT0 HT1 HWa HBa HB2 HB3 hlx hf2
  replace HX := Lib.hid (HX.out.below HBX.out (Nat.le_refl _))
  have htx : binsB room (xs.map bpv) = true := by rw [HXS.out, List.map_append, List.map_take, List.map_drop]; exact bins_out HV.out k
  have HTX := Lib.hid htx; clear htx
  have hmx : ∀ t, t ∈ bflat xs → t ∈ bflat bs := by rw [HXS.out]; exact (bflat_two bs k (k + 1)).2
  have hmy : ∀ t, t ∈ bflat ys → t ∈ bflat bs := by rw [HYS.out]; exact (bflat_two bs (k + 1) k).2
  have HMX := Lib.hid hmx; clear hmx
  have HMY := Lib.hid hmy; clear hmy
  go_wp2_with fail
  refine (binsValid_any A1 c1 _ _ room A3 c3 _ _ xs w7 HI.out (by omega) HX.out (by omega) (by omega) (fun t ht => HNL.out t (HMX.out t ht)) (fun t ht => (HGT.out t (HMX.out t ht)).wf) (by omega) (by omega)).mono ?_; rintro e w8 ⟨rfl, hb⟩
  rw [HTX.out]
  have hs8 := hb.size
  first | replace HI := Lib.hid (Ints.only HI.out hb (by omega) (by omega)) | replace HI := Lib.hid (Ints.below HI.out hb (by omega))
  first | replace HY := Lib.hid (Bins.only HY.out hb (by omega) (by omega)) | replace HY := Lib.hid (Bins.below HY.out hb (by omega))
  first | replace HT := Lib.hid (Bins.only HT.out hb (by omega) (by omega)) | replace HT := Lib.hid (Bins.below HT.out hb (by omega))
  first | replace HB := Lib.hid (Below.trans HB.out (Below.mono hb (by omega))) | replace HB := Lib.hid (Below.trans HB.out (Only.below hb (by omega) (by omega)))
  clear hb
  obtain ⟨bb, off, xk, rfl, hxk, hck, _, _, _⟩ := HT.out.at_ hkl
  have HXK := Lib.hid hxk; clear hxk
  by_cases h0 : xk.ts.length = 0
  · have h0' : (xk.ts.length : Int) = 0 := by omega
    go_wp2_with fail
    go_ret
    exact ⟨by simp, HB.out⟩
  have h0' : ((xk.ts.length : Int) == 0) = false := by simp only [beq_eq_false_iff_ne, ne_eq]; omega
  have hty : binsB room (ys.map bpv) = false := by
    rw [HYS.out, List.map_append, List.map_take, List.map_drop]
    refine bins_twice (b := bpv xk) (by rw [List.getElem?_map, HXK.out]; rfl) ?_
    intro he
    have := congrArg List.length he
    simp [bpv] at this
    exact h0 (by rw [this]; rfl)
  have HTY := Lib.hid hty; clear hty h0
  go_wp2_with fail
  refine (binsValid_any A1 c1 _ _ room A4 c4 _ _ ys w8 HI.out (by omega) HY.out (by omega) (by omega) (fun t ht => HNL.out t (HMY.out t ht)) (fun t ht => (HGT.out t (HMY.out t ht)).wf) (by omega) (by omega)).mono ?_; rintro e w9 ⟨rfl, hb⟩
  rw [HTY.out]
  first | replace HB := Lib.hid (Below.trans HB.out (Below.mono hb (by omega))) | replace HB := Lib.hid (Below.trans HB.out (Only.below hb (by omega) (by omega)))
  clear hb
  go_wp2_with fail
  go_ret
  exact ⟨by simp, HB.out⟩
end Go.Proofs.Ythfhlcmgeacddaa
