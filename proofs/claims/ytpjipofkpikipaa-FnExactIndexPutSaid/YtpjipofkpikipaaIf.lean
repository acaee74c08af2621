/- The program's index functions: IndexFirst, IndexPut. No condition but on sizes. -/
import Derived.Test.YtpjipofkpikipaaIe
namespace Go.Proofs.Ytpjipofkpikipaa
open Go.RowKit
theorem findL_at {need : List Int} {rooms : List (List Int)} {k : Nat} {r : List Int} (hr : rooms[k]? = some r) (hf : fitsB need r = true) (h : ∀ (j : Nat) r', j < k → rooms[j]? = some r' → fitsB need r' = false) : findL need rooms = k := by
  rcases findL_cases need rooms with ⟨_, h2⟩ | ⟨i, r', e, hi, hfi, h2⟩
  · rw [h2 k r hr] at hf; cases hf
  · rw [e]
    rcases Nat.lt_trichotomy i k with h3 | h3 | h3
    · rw [h i r' h3 hi] at hfi; cases hfi
    · rw [h3]
    · rw [h2 k r h3 hr] at hf; cases hf
theorem findL_none {need : List Int} {rooms : List (List Int)} (h : ∀ (j : Nat) r, rooms[j]? = some r → fitsB need r = false) : findL need rooms = -1 := by
  rcases findL_cases need rooms with ⟨e, _⟩ | ⟨i, r', e, hi, hfi, h2⟩
  · exact e
  · rw [h i r' hi] at hfi; cases hfi
theorem indexFirst_any (A : Option Addr) (c lo hi : Nat) (us : List RowV) (B : Option Addr) (d lo' hi' : Nat) (ys : List Int) (w : World) (hI : Rws w lo hi A c us) (hl : us.length ≤ 1048576) (hn : ∀ r, r ∈ us → r.xs.length ≤ 1048576) (h1 : hi ≤ w.heap.size)
    (hB : Ints w lo' hi' B d ys) (hly : ys.length ≤ 1048576) (h2 : hi' ≤ w.heap.size) :
    Calls Try.prog 32 #[.slice A us.length c, .slice B ys.length d] w fun e w' => e = .returned (.int .i64 (firstI (us.map RowV.xs) ys)) ∧ Below w.heap.size w w' := by
  have HI := Lib.hid hI; clear hI
  have HN := Lib.hid hn; clear hn
  have HY := Lib.hid hB; clear hB
  obtain ⟨vi, hvi⟩ : ∃ v, idxB (us.map RowV.xs) = v := ⟨_, rfl⟩
  obtain ⟨vn, hvn⟩ : ∃ v, vecB ys = v := ⟨_, rfl⟩
  have HVI := Lib.hid hvi; clear hvi
  have HVN := Lib.hid hvn; clear hvn
  cases vi
  · have HE : Hid (firstI (us.map RowV.xs) ys = -1) := Lib.hid (by unfold firstI; rw [HVI.out]; rfl)
    go_enter Try.func32, Try.ntmps32
    go_wp2_with fail
    refine (indexValid_any _ _ _ _ us w HI.out hl HN.out h1).mono ?_; rintro e w1 ⟨rfl, hb⟩
    rw [HVI.out]
    have HB := Lib.hid hb; clear hb
    go_wp2_with fail
    go_ret
    exact ⟨by simp [HE.out], HB.out⟩
  cases vn
  · have HE : Hid (firstI (us.map RowV.xs) ys = -1) := Lib.hid (by unfold firstI; rw [HVI.out, HVN.out]; rfl)
    go_enter Try.func32, Try.ntmps32
    go_wp2_with fail
    refine (indexValid_any _ _ _ _ us w HI.out hl HN.out h1).mono ?_; rintro e w1 ⟨rfl, hb⟩
    rw [HVI.out]
    have HB := Lib.hid hb; clear hb
    go_wp2_with fail
    refine (vecValid_any _ _ _ _ ys w1 (HY.out.below HB.out h2) hly).mono ?_; rintro e w' ⟨rfl, rfl⟩
    rw [HVN.out]
    go_wp2_with fail
    go_ret
    exact ⟨by simp [HE.out], HB.out⟩
  have HE : Hid (firstI (us.map RowV.xs) ys = findL ys ((us.drop 16).map RowV.xs)) := Lib.hid (by unfold firstI; rw [HVI.out, HVN.out, List.map_drop]; rfl)
  have h32 : us.length = 32 := by have := (idxB_form HVI.out); obtain ⟨rs, h, _⟩ := this; have := congrArg List.length h; rw [tabL_len] at this; simpa using this
  have hall : ∀ r, r ∈ us → vecB r.xs = true := by
    have := HVI.out
    simp only [idxB, Bool.and_eq_true] at this
    exact rows_all this.1.2
  have h9 := indexValid_any _ _ _ _ us w HI.out hl HN.out h1
  rw [h32, HVI.out] at h9
  rw [h32]
  have H9 := Lib.hid h9
  have H32 := Lib.hid h32
  have HAll := Lib.hid hall
  obtain ⟨b, off, rfl, _⟩ := HI.out.1.form (by omega)
  have hle := HI.out.len
  have hc16 : ¬ c = 16 := by omega
  have hcl : 32 ≤ c := by omega
  have h3 := vec_len HVN.out
  have HY3 := Lib.hid h3
  have h10 := fun W (hI : Ints W lo' hi' B d ys) => vecValid_any _ _ _ _ ys W hI hly
  rw [h3, HVN.out] at h10
  rw [h3]
  have H10 := Lib.hid h10
  clear h9 hall hle h3 h10 h32 hl hly
  go_enter Try.func32, Try.ntmps32
  go_wp2_with fail
  refine H9.out.mono ?_; rintro e w1 ⟨rfl, hb⟩
  have HB := Lib.hid hb
  have HD : Hid (Rws w1 lo hi (some ⟨b, off + 16, none⟩) (c - 16) (us.drop 16)) := Lib.hid ((HI.out.below hb h1).drop16 (by rw [H32.out]; omega) hc16)
  have HDL : Hid ((us.drop 16).length = 16) := Lib.hid (by rw [List.length_drop, H32.out])
  replace HY := Lib.hid (HY.out.below hb h2)
  clear hb
  go_wp2_with fail
  refine (H10.out w1 HY.out).mono ?_; rintro e w' ⟨rfl, rfl⟩
  go_wp2_with fail
  go_loop [18] (fun i => ∃ k : Nat, k ≤ 16 ∧ i = .int .i64 k ∧ (∀ (j : Nat) r', j < k → ((us.drop 16).map RowV.xs)[j]? = some r' → fitsB ys r' = false)) (fun i => 16 - (intOf i).toNat)
  case atStart => exact ⟨0, by omega, rfl, fun j r' hj => by omega⟩
  case round =>
    obtain ⟨k, hk, rfl, hall⟩ := hrel
    have HL := Lib.hid hall; clear hall
    by_cases hlt : k < 16
    · obtain ⟨b', off', r, he', hr, hc, _, _, hIr⟩ := HD.out.at_ (k := k) (by rw [HDL.out]; exact hlt)
      simp only [Option.some.injEq, Addr.mk.injEq, and_true] at he'
      obtain ⟨rfl, rfl⟩ := he'
      have hvr := HAll.out r (List.mem_of_mem_drop (List.mem_of_getElem? hr))
      have hrm : ((us.drop 16).map RowV.xs)[k]? = some r.xs := by rw [List.getElem?_map, hr]; rfl
      obtain ⟨v, hv⟩ : ∃ v, fitsB ys r.xs = v := ⟨_, rfl⟩
      have h7 := fits_any _ _ _ _ _ _ _ _ ys r.xs w1 HY.out hIr HY3.out (vec_len hvr)
      rw [HY3.out, hv] at h7
      have H7 := Lib.hid h7
      have HV := Lib.hid hv
      have HRM := Lib.hid hrm
      have hklt : (k : Int) < 16 := by omega
      clear hr hIr hvr hrm hv h7
      cases v
      · go_wp2_with fail
        refine H7.out.mono ?_; rintro e w' ⟨rfl, rfl⟩
        go_wp2_with fail
        go_round
        case rel =>
          refine ⟨k + 1, by omega, by go_num, fun j r' hj hr' => ?_⟩
          by_cases hjk : j < k
          · exact HL.out j r' hjk hr'
          · obtain rfl : j = k := by omega
            rw [HRM.out] at hr'
            obtain rfl := Option.some.inj hr'
            exact HV.out
        case measure => simp [intOf]; omega
      · have HF := Lib.hid (findL_at HRM.out HV.out HL.out)
        go_wp2_with fail
        refine H7.out.mono ?_; rintro e w' ⟨rfl, rfl⟩
        go_wp2_with fail
        go_ret
        exact ⟨by simp [HE.out.trans HF.out], HB.out⟩
    · have HF : Hid (findL ys ((us.drop 16).map RowV.xs) = -1) := Lib.hid (findL_none fun j r hr => HL.out j r (by
        have := (List.getElem?_eq_some_iff.1 hr).1
        rw [List.length_map, HDL.out] at this; omega) hr)
      go_wp2_with fail
      go_ret
      exact ⟨by simp [HE.out.trans HF.out], HB.out⟩
/-- what both IndexPut leave -/
def RetP (w : World) (pr : List (List Int) × Bool) (e : Ending) (w' : World) : Prop :=
  (pr = ([], false) ∧ ∃ A c, e = .returned (.tuple #[.slice A 0 c, .bool false]) ∧ c ≤ maxLen ∧ Below w.heap.size w w') ∨
  ∃ T, ∃ us : List RowV, pr = (us.map RowV.xs, true) ∧ us.length = 32 ∧ e = .returned (.tuple #[.slice (some ⟨T, 0, none⟩) 32 32, .bool true]) ∧ w.heap.size ≤ T ∧ Tab w' T 32 28 us ∧ Below w.heap.size w w'
set_option maxHeartbeats 1000000 in
theorem indexPut_any (A : Option Addr) (c lo hi : Nat) (us : List RowV) (i : Int) (B : Option Addr) (d lo' hi' : Nat) (ys : List Int) (w : World) (hI : Rws w lo hi A c us) (hl : us.length ≤ 1048576) (hn : ∀ r, r ∈ us → r.xs.length ≤ 1048576) (h1 : hi ≤ w.heap.size)
    (hB : Ints w lo' hi' B d ys) (hly : ys.length ≤ 1048576) (h2 : hi' ≤ w.heap.size) :
    Calls Try.prog 37 #[.slice A us.length c, .int .i64 i, .slice B ys.length d] w (RetP w (putR (us.map RowV.xs) i ys)) := by
  have HI := Lib.hid hI; clear hI
  have HN := Lib.hid hn; clear hn
  have HY := Lib.hid hB; clear hB
  obtain ⟨vi, hvi⟩ : ∃ v, idxB (us.map RowV.xs) = v := ⟨_, rfl⟩
  obtain ⟨va, hva⟩ : ∃ v, inB i 0 15 = v := ⟨_, rfl⟩
  obtain ⟨vn, hvn⟩ : ∃ v, vecB ys = v := ⟨_, rfl⟩
  have HVI := Lib.hid hvi; clear hvi
  have HVA := Lib.hid hva; clear hva
  have HVN := Lib.hid hvn; clear hvn
  have H8 := Lib.hid (indexValid_any _ _ _ _ us w HI.out hl HN.out h1)
  have H9 := Lib.hid (fun W => within_any i 0 15 W)
  have H10 := Lib.hid (fun W hb => vecValid_any _ _ _ _ ys W (HY.out.below (w' := W) (B := w.heap.size) hb h2) hly)
  cases vi
  · have HE : Hid (putR (us.map RowV.xs) i ys = ([], false)) := Lib.hid (by unfold putR; rw [HVI.out]; rfl)
    go_enter Try.func37, Try.ntmps37
    go_wp2_with fail
    refine H8.out.mono ?_; rintro e w1 ⟨rfl, hb⟩
    rw [HVI.out]
    have HB := Lib.hid hb; clear hb
    go_wp2_with fail
    go_ret2
    rw [HE.out]
    exact .inl ⟨rfl, none, 0, by simp, by simp [maxLen], HB.out⟩
  cases va
  · have HE : Hid (putR (us.map RowV.xs) i ys = ([], false)) := Lib.hid (by unfold putR; rw [HVI.out, HVA.out]; rfl)
    go_enter Try.func37, Try.ntmps37
    go_wp2_with fail
    refine H8.out.mono ?_; rintro e w1 ⟨rfl, hb⟩
    rw [HVI.out]
    have HB := Lib.hid hb; clear hb
    go_wp2_with fail
    refine (H9.out w1).mono ?_; rintro e w' ⟨rfl, rfl⟩
    rw [HVA.out]
    go_wp2_with fail
    go_ret2
    rw [HE.out]
    exact .inl ⟨rfl, none, 0, by simp, by simp [maxLen], HB.out⟩
  cases vn
  · have HE : Hid (putR (us.map RowV.xs) i ys = ([], false)) := Lib.hid (by unfold putR; rw [HVI.out, HVA.out, HVN.out]; rfl)
    go_enter Try.func37, Try.ntmps37
    go_wp2_with fail
    refine H8.out.mono ?_; rintro e w1 ⟨rfl, hb⟩
    rw [HVI.out]
    have HB := Lib.hid hb; clear hb
    go_wp2_with fail
    refine (H9.out w1).mono ?_; rintro e w' ⟨rfl, rfl⟩
    rw [HVA.out]
    go_wp2_with fail
    refine (H10.out w1 HB.out).mono ?_; rintro e w' ⟨rfl, rfl⟩
    rw [HVN.out]
    go_wp2_with fail
    go_ret2
    rw [HE.out]
    exact .inl ⟨rfl, none, 0, by simp, by simp [maxLen], HB.out⟩
  obtain ⟨k, rfl, hk⟩ : ∃ k : Nat, i = k ∧ k < 16 := by
    have := inB_of HVA.out
    exact ⟨i.toNat, by omega, by omega⟩
  have HE : Hid (putR (us.map RowV.xs) k ys = (tabL (((us.drop 16).map RowV.xs).set k ys), true)) := Lib.hid (by unfold putR; rw [HVI.out, HVA.out, HVN.out, List.map_drop]; rfl)
  have h32 : us.length = 32 := by have := (idxB_form HVI.out); obtain ⟨rs, h, _⟩ := this; have := congrArg List.length h; rw [tabL_len] at this; simpa using this
  have hall : ∀ r, r ∈ us → vecB r.xs = true := by
    have := HVI.out
    simp only [idxB, Bool.and_eq_true] at this
    exact rows_all this.1.2
  have h8 := H8.out
  rw [h32, HVI.out] at h8
  replace H8 := Lib.hid h8
  have h10 := H10.out
  have h3 := vec_len HVN.out
  rw [h3, HVN.out] at h10
  replace H10 := Lib.hid h10
  rw [h32, h3]
  have H32 := Lib.hid h32
  have HY3 := Lib.hid h3
  have HAll := Lib.hid hall
  obtain ⟨b, off, rfl, _⟩ := HI.out.1.form (by omega)
  have hle := HI.out.len
  have hc16 : ¬ c = 16 := by omega
  have hcl : 32 ≤ c := by omega
  clear h8 hall hle h3 h10 h32 hl hly
  go_enter Try.func37, Try.ntmps37
  go_wp2_with fail
  refine H8.out.mono ?_; rintro e w1 ⟨rfl, hb⟩
  have HB := Lib.hid hb
  have HD : Hid (Rws w1 lo hi (some ⟨b, off + 16, none⟩) (c - 16) (us.drop 16)) := Lib.hid ((HI.out.below hb h1).drop16 (by rw [H32.out]; omega) hc16)
  have HDL : Hid ((us.drop 16).length = 16) := Lib.hid (by rw [List.length_drop, H32.out])
  replace HY := Lib.hid (HY.out.below hb h2)
  have hs1 := hb.size
  clear hb
  go_wp2_with fail
  refine (H9.out w1).mono ?_; rintro e w' ⟨rfl, rfl⟩
  rw [HVA.out]
  go_wp2_with fail
  refine (H10.out w1 HB.out).mono ?_; rintro e w' ⟨rfl, rfl⟩
  have h11 := cloneR_any (some ⟨b, off + 16, none⟩) (c - 16) lo hi (us.drop 16) w1 HD.out (by rw [HDL.out]; omega) (by omega)
  rw [HDL.out] at h11
  have H11 := Lib.hid h11
  clear h11
  go_wp2_with fail
  refine H11.out.mono ?_; rintro e w2 ⟨A2, c2, rfl, hown, hb2⟩
  obtain ⟨g, cap, he, hg1, hg2⟩ := hown.form (by omega)
  simp only [Value.slice.injEq, true_and] at he
  obtain ⟨rfl, rfl⟩ := he
  have HO := Lib.hid hown
  have HB2 := Lib.hid (HB.out.trans (hb2.mono hs1))
  have hs2 := hb2.size
  have hd0 := hown.cellAt k (by omega)
  have hf0 := hown.frozenAt k
  obtain ⟨r0, hr0⟩ : ∃ r, (us.drop 16)[k]? = some r := ⟨_, List.getElem?_eq_getElem (by rw [HDL.out]; exact hk)⟩
  rw [List.getElem?_map, hr0] at hd0
  simp only [Option.map_some, rcell] at hd0
  have hki : (k : Int) < 16 := by omega
  replace HD := Lib.hid (HD.out.below hb2 (by omega))
  replace HY := Lib.hid (HY.out.below hb2 (by omega))
  clear hown hb2 hr0
  go_wp2_with fail
  obtain ⟨w3, hw3⟩ : ∃ W, W = w2.setCell ⟨g, k, none⟩ (.slice B 3 d) := ⟨_, rfl⟩
  rw [← hw3]
  have hb3 : Below w1.heap.size w2 w3 := by rw [hw3]; exact (Below.refl _ _).setCell (p := ⟨g, k, none⟩) hg1 _
  have hs3 : w3.heap.size = w2.heap.size := by rw [hw3]; simp [World.setCell]
  have hst := (HO.out.stored k (.slice B 3 d)).1
  rw [← hw3] at hst
  obtain ⟨vs, hvs⟩ : ∃ vs : List RowV, vs = (us.drop 16).set k ⟨B, d, ys⟩ := ⟨_, rfl⟩
  have hcell : (Value.slice B 3 d) = rcell ⟨B, d, ys⟩ := by simp [rcell, HY3.out]
  rw [hcell, ← List.map_set, ← hvs] at hst
  have hvl : vs.length = 16 := by rw [hvs, List.length_set, HDL.out]
  have hR : Rws w3 0 w3.heap.size (some ⟨g, 0, none⟩) c2 vs := by
    obtain ⟨A9, c9, he, hR⟩ := Rws.of_own (lo := 0) hst hvl.symm (fun r hr => by
      rw [hvs] at hr
      rcases List.mem_or_eq_of_mem_set hr with h | rfl
      · exact ((HD.out.2 r h).below hb3 (by omega)).mono (Nat.zero_le _) (by omega)
      · exact (HY.out.below hb3 (by omega)).mono (Nat.zero_le _) (by omega)) (Nat.zero_le _)
    simp only [Value.slice.injEq] at he
    obtain ⟨rfl, -, rfl⟩ := he
    exact hR
  have hva : ∀ r, r ∈ vs → vecB r.xs = true := fun r hr => by
    rw [hvs] at hr
    rcases List.mem_or_eq_of_mem_set hr with h | rfl
    · exact HAll.out r (List.mem_of_mem_drop h)
    · exact HVN.out
  have hvm : vs.map RowV.xs = ((us.drop 16).map RowV.xs).set k ys := by rw [hvs, List.map_set]
  have HR := Lib.hid hR
  have HVL := Lib.hid hvl
  have HVV := Lib.hid hva
  have HVM := Lib.hid hvm
  have HB3 := Lib.hid (HB2.out.trans (hb3.mono hs1))
  obtain ⟨hs3a, hs3b⟩ : w2.heap.size ≤ w3.heap.size ∧ w3.heap.size ≤ w2.heap.size := by omega
  clear hw3 hb3 hs3 hst hvs hcell hvl hR hva hvm hd0 hf0
  go_wp2_with fail
  refine (tableOf_any _ _ vs w3 HR.out HVL.out HVV.out).mono ?_; rintro e w4 ⟨rfl, hT, ⟨us4, he4, ht4⟩, hb4⟩
  have HF : Hid (RetP w (putR (us.map RowV.xs) k ys) (.returned (.tuple #[.slice (some ⟨w3.heap.size, 0, none⟩) 32 32, .bool true])) w4) := Lib.hid (.inr ⟨w3.heap.size, us4, by rw [HE.out, he4, HVM.out], ht4.len, rfl, by omega, ht4, HB3.out.trans (hb4.mono (by omega))⟩)
  clear hT he4 ht4 hb4
  go_wp2_with fail
  go_ret2
  exact HF.out
end Go.Proofs.Ytpjipofkpikipaa
