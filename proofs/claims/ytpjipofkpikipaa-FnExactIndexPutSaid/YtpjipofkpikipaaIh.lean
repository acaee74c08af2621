/- The reference's index functions: IndexOf, IndexValid, IndexFirst, IndexPut. No condition but on sizes. -/
import Derived.Test.YtpjipofkpikipaaIg
namespace Go.Proofs.Ytpjipofkpikipaa
open Go.RowKit
theorem idxB_of {t : List (List Int)} (hl : t.length = 32) (h0 : t[0]? = some [0, 0, 0]) (hv : ∀ j, 16 ≤ j → j < 32 → ∀ r, t[j]? = some r → vecB r = true) (hn : ∀ j, 1 ≤ j → j < 16 → t[j]? = some (nodeN (t.drop 16) j)) : idxB t = true := by
  have hd : (t.drop 16).length = 16 := by rw [List.length_drop, hl]
  have e : t = tabL (t.drop 16) := by
    refine tabL_eq hl h0 fun k h1 h2 => ?_
    by_cases hk : k < 16
    · exact hn k h1 hk
    · obtain ⟨i, rfl⟩ : ∃ i, k = 16 + i := ⟨k - 16, by omega⟩
      rw [nodeN_leaf, List.getD, List.getElem?_drop, List.getElem?_eq_getElem (by omega)]; rfl
  have h9 := idxB_tab hd (fun r hr => by
    obtain ⟨i, hi⟩ := List.getElem?_of_mem hr
    rw [List.getElem?_drop] at hi
    exact hv (16 + i) (by omega) (by have := (List.getElem?_eq_some_iff.1 hi).1; omega) r hi)
  rwa [← e] at h9
theorem idxB_at0 {t : List (List Int)} (h : idxB t = true) : t[0]? = some [0, 0, 0] := by
  obtain ⟨rs, e, _⟩ := idxB_form h
  rw [e]; rfl
theorem idxB_atn {t : List (List Int)} (h : idxB t = true) {j : Nat} (h1 : 1 ≤ j) (h2 : j < 16) : t[j]? = some (nodeN (t.drop 16) j) := by
  obtain ⟨rs, e, hl, hv, hd⟩ := idxB_form h
  rw [hd, e]; exact tabL_at rs h1 (by omega)
theorem idxB_vec {t : List (List Int)} (h : idxB t = true) {j : Nat} {r : List Int} (hr : t[j]? = some r) : vecB r = true := by
  simp only [idxB, Bool.and_eq_true, List.all_eq_true] at h
  exact h.1.2 r (List.mem_of_getElem? hr)
theorem xs_at {us : List RowV} {k : Nat} {r : RowV} (h : us[k]? = some r) : (us.map RowV.xs)[k]? = some r.xs := by rw [List.getElem?_map, h]; rfl
theorem padL_full {rs : List (List Int)} (h : rs.length = 16) : padL rs = rs := by simp [padL, h]
theorem RetX.to0 {w w1 w' : World} {T : Nat} {rs : List (List Int)} {e : Ending} (h : RetX w1 T rs e w') (hb : Below w.heap.size w w1) (hs : w.heap.size ≤ w1.heap.size) : RetX w T rs e w' :=
  ⟨h.1, Nat.le_trans hs h.2.1, h.2.2.1, hb.trans (h.2.2.2.mono hs)⟩
theorem indexOfS_any (A : Option Addr) (c lo hi : Nat) (rs : List RowV) (w : World) (hI : Rws w lo hi A c rs) (hl : rs.length ≤ 1048576) (hn : ∀ r, r ∈ rs → r.xs.length ≤ 1048576) (h1 : hi ≤ w.heap.size) :
    Calls Try.prog 18 #[.slice A rs.length c] w (RetO w (idxOf (rs.map RowV.xs))) := by
  have HI := Lib.hid hI; clear hI
  have HN := Lib.hid hn; clear hn
  have HE : Hid (Below w.heap.size w (w.alloc (.cells #[] 28))) := Lib.hid (alloc_below w _)
  go_enter Try.func18, Try.ntmps18
  go_wp2_with fail
  go_loop [3] (fun i => ∃ k : Nat, k ≤ rs.length ∧ i = .int .i64 k ∧ rowsB (rs.take k) = true) (fun i => rs.length - (intOf i).toNat)
  case atStart => exact ⟨0, by omega, rfl, rfl⟩
  case round =>
    obtain ⟨k, hk, rfl, hall⟩ := hrel
    have HL := Lib.hid hall; clear hall
    by_cases hlt : k < rs.length
    · obtain ⟨b, off, r, rfl, hr, hc, _, _, hI⟩ := HI.out.at_ hlt
      have hnr := HN.out r (List.mem_of_getElem? hr)
      have HR := Lib.hid hr; clear hr
      have HIr := Lib.hid hI; clear hI
      have hklt : (k : Int) < rs.length := by omega
      cases hin : vecB r.xs
      · have HH1 := Lib.hid (rows_false HR.out hin)
        have HQ : Hid (idxOf (rs.map RowV.xs) = []) := Lib.hid (by unfold idxOf; rw [if_neg]; rw [show (rs.map RowV.xs).all vecB = false from HH1.out]; simp)
        have HV := Lib.hid hin; clear hin
        go_wp2_with fail
        refine (vecValidS_any _ _ _ _ r.xs _ HIr.out hnr).mono ?_; rintro e w' ⟨rfl, rfl⟩
        rw [HV.out]
        go_wp2_with fail
        go_ret
        rw [HQ.out]
        exact .inl ⟨rfl, some ⟨w.heap.size, 0, none⟩, 0, by simp, by simp [maxLen], HE.out⟩
      · have HH1 := Lib.hid (rows_take_succ HR.out hin HL.out)
        have HV := Lib.hid hin; clear hin
        go_wp2_with fail
        refine (vecValidS_any _ _ _ _ r.xs _ HIr.out hnr).mono ?_; rintro e w' ⟨rfl, rfl⟩
        rw [HV.out]
        go_wp2_with fail
        go_round
        case rel => exact ⟨k + 1, by omega, by go_num, HH1.out⟩
        case measure => simp [intOf]; omega
    · have HH1 : Hid (rowsB rs = true) := Lib.hid (by
        have := HL.out
        rwa [show k = rs.length by omega, List.take_length] at this)
      have hkn : ¬ ((k : Int) < rs.length) := by omega
      by_cases h14 : 14 < rs.length
      · have HQ : Hid (idxOf (rs.map RowV.xs) = []) := Lib.hid (by unfold idxOf; rw [if_neg]; simp; omega)
        have h14i : (14 : Int) < rs.length := by omega
        go_wp2_with fail
        go_ret
        rw [HQ.out]
        exact .inl ⟨rfl, some ⟨w.heap.size, 0, none⟩, 0, by simp, by simp [maxLen], HE.out⟩
      · have h14i : ¬ ((14 : Int) < rs.length) := by omega
        have HQ : Hid (idxOf (rs.map RowV.xs) = tabL (padL (rs.map RowV.xs))) := Lib.hid (by unfold idxOf; rw [if_pos]; rw [show (rs.map RowV.xs).all vecB = true from HH1.out]; simp; omega)
        go_wp2_with fail
        refine (l3Build_any A c rs w (HI.out.mono (Nat.zero_le _) h1) (by omega) (rows_all HH1.out)).mono ?_; rintro e w3 ⟨rfl, hT, ⟨us3, he3, ht3⟩, hb3⟩
        have HF : Hid (RetO w (idxOf (rs.map RowV.xs)) (.returned (.slice (some ⟨w.heap.size, 0, none⟩) 32 32)) w3) := Lib.hid (.inr ⟨w.heap.size, padL (rs.map RowV.xs), HQ.out, rfl, Nat.le_refl _, ⟨us3, he3, ht3⟩, hb3⟩)
        clear hT he3 ht3 hb3
        go_wp2_with fail
        go_ret
        exact HF.out
set_option maxHeartbeats 1000000 in
theorem indexValidS_any (A : Option Addr) (c lo hi : Nat) (us : List RowV) (w : World) (hI : Rws w lo hi A c us) (_hl : us.length ≤ 1048576) (hn : ∀ r, r ∈ us → r.xs.length ≤ 1048576) (h1 : hi ≤ w.heap.size) :
    Calls Try.prog 26 #[.slice A us.length c] w fun e w' => e = .returned (.bool (idxB (us.map RowV.xs))) ∧ Below w.heap.size w w' := by
  have HI := Lib.hid hI; clear hI
  have HN := Lib.hid hn; clear hn
  by_cases h32 : us.length = 32
  · have H32 := Lib.hid h32
    have hle := HI.out.len
    have hc16 : ¬ c = 16 := by omega
    have hcl : 32 ≤ c := by omega
    obtain ⟨b, off, r0, rfl, hr0, hc0, _, hbh, hI0⟩ := HI.out.at_ (k := 0) (by omega)
    have hn0 := HN.out r0 (List.mem_of_getElem? hr0)
    rw [h32]
    obtain ⟨w1, hw1⟩ : ∃ W, W = w.alloc (.cells #[.int .i64 0, .int .i64 0, .int .i64 0] 3) := ⟨_, rfl⟩
    have hb1 : Below w.heap.size w w1 := by rw [hw1]; exact alloc_below w _
    have hIz : Ints w1 w.heap.size w1.heap.size (some ⟨w.heap.size, 0, none⟩) 3 [0, 0, 0] := by rw [hw1]; exact ints_lit0 w
    have hs1 := hb1.size
    replace HI := Lib.hid (HI.out.below hb1 h1)
    obtain ⟨v, hv⟩ : ∃ v, sameB r0.xs [0, 0, 0] = v := ⟨_, rfl⟩
    have h9 := l3Same_any _ _ _ _ _ _ _ _ r0.xs [0, 0, 0] w1 (hI0.below hb1 h1) hIz hn0 (by simp)
    rw [hv] at h9
    have HV := Lib.hid hv
    have H9 := Lib.hid h9
    have HB1 := Lib.hid hb1
    have HR0 := Lib.hid (xs_at hr0)
    have hc00 : w.cell? ⟨b, off, none⟩ = some (.slice r0.a r0.xs.length r0.c) := by simpa using hc0
    clear h32 hle h9 hv hIz hb1 hI0 hr0 hn0 hc0
    go_enter Try.func26, Try.ntmps26
    go_wp2_with fail
    rw [← hw1]
    refine H9.out.mono ?_; rintro e w2 ⟨rfl, n2, hw2⟩
    have hb2 : Below w.heap.size w w2 := by rw [hw2]; exact Below.drewN HB1.out n2
    have hs2 := hb2.size
    have HB2 := Lib.hid hb2
    replace HI : Hid (Rws w2 lo hi (some ⟨b, off, none⟩) c us) := Lib.hid (by rw [hw2]; exact HI.out.drewN n2)
    clear hb2 hw2 hw1 HB1 H9 hs1 hc00
    cases v
    · have HE : Hid (idxB (us.map RowV.xs) = false) := Lib.hid (by
        rw [← Bool.not_eq_true]
        intro h
        have := idxB_at0 h
        rw [HR0.out] at this
        have h9 := HV.out
        rw [Option.some.inj this] at h9
        cases h9)
      go_wp2_with fail
      go_ret
      exact ⟨by simp [HE.out], HB2.out⟩
    have hz : r0.xs = [0, 0, 0] := (sameB_iff (by rfl)).1 HV.out
    have HR : Hid ((us.map RowV.xs)[0]? = some [0, 0, 0]) := Lib.hid (by rw [HR0.out, hz])
    clear hz HR0 HV
    go_wp2_with fail
    go_loop [3] (fun i => ∃ k : Nat, 16 ≤ k ∧ k ≤ 32 ∧ i = .int .i64 k ∧ ∀ (j : Nat) r, 16 ≤ j → j < k → us[j]? = some r → vecB r.xs = true) (fun i => 32 - (intOf i).toNat)
    case atStart => exact ⟨16, by omega, by omega, rfl, fun j r h1 h2 => by omega⟩
    case round =>
      obtain ⟨k, hk1, hk, rfl, hall⟩ := hrel
      have HL := Lib.hid hall; clear hall
      by_cases hlt : k < 32
      · obtain ⟨b', off', r, he, hr, hc, _, _, hI⟩ := HI.out.at_ (k := k) (by rw [H32.out]; exact hlt)
        simp only [Option.some.injEq, Addr.mk.injEq, and_true] at he
        obtain ⟨rfl, rfl⟩ := he
        have hnr := HN.out r (List.mem_of_getElem? hr)
        have HX := Lib.hid hr; clear hr
        have HIr := Lib.hid hI; clear hI
        have hklt : (k : Int) < 32 := by omega
        cases hin : vecB r.xs
        · have HE : Hid (idxB (us.map RowV.xs) = false) := Lib.hid (by
            rw [← Bool.not_eq_true]
            intro h
            have := idxB_vec h (xs_at HX.out)
            rw [hin] at this; cases this)
          have HV := Lib.hid hin; clear hin
          go_wp2_with fail
          refine (vecValidS_any _ _ _ _ r.xs _ HIr.out hnr).mono ?_; rintro e w' ⟨rfl, rfl⟩
          rw [HV.out]
          go_wp2_with fail
          go_ret
          exact ⟨by simp [HE.out], HB2.out⟩
        · have HV := Lib.hid hin; clear hin
          go_wp2_with fail
          refine (vecValidS_any _ _ _ _ r.xs _ HIr.out hnr).mono ?_; rintro e w' ⟨rfl, rfl⟩
          rw [HV.out]
          go_wp2_with fail
          go_round
          case rel =>
            refine ⟨k + 1, by omega, by omega, by go_num, fun j r' h1 h2 hr' => ?_⟩
            by_cases hjk : j = k
            · subst hjk
              have := HX.out
              rw [hr'] at this
              obtain rfl := Option.some.inj this
              exact HV.out
            · exact HL.out j r' h1 (by omega) hr'
          case measure => simp [intOf]; omega
      · have hk32 : ¬ ((k : Int) < 32) := by omega
        have HVD : Hid (∀ r, r ∈ us.drop 16 → vecB r.xs = true) := Lib.hid (fun r hr => by
          obtain ⟨i, hi⟩ := List.getElem?_of_mem hr
          rw [List.getElem?_drop] at hi
          exact HL.out (16 + i) r (by omega) (by have := (List.getElem?_eq_some_iff.1 hi).1; have := H32.out; omega) hi)
        have HD : Hid (Rws w2 0 w2.heap.size (some ⟨b, off + 16, none⟩) (c - 16) (us.drop 16)) := Lib.hid ((HI.out.mono (Nat.zero_le _) (by omega)).drop16 (by rw [H32.out]; omega) hc16)
        have HDL : Hid ((us.drop 16).length = 16) := Lib.hid (by rw [List.length_drop, H32.out])
        obtain ⟨P, hP⟩ : ∃ P, P = (us.drop 16).map RowV.xs := ⟨_, rfl⟩
        have hPl : P.length = 16 := by rw [hP, List.length_map, HDL.out]
        have h7 := l3Build_any (some ⟨b, off + 16, none⟩) (c - 16) (us.drop 16) w2 HD.out (by rw [HDL.out]; omega) HVD.out
        rw [HDL.out, ← hP, padL_full hPl] at h7
        have H7 := Lib.hid h7
        have HP := Lib.hid hP
        have HPL := Lib.hid hPl
        have HPV : Hid (∀ r, r ∈ P → vecB r = true) := Lib.hid (fun r hr => by
          rw [hP] at hr
          obtain ⟨x, hx, rfl⟩ := List.mem_map.1 hr
          exact HVD.out x hx)
        clear h7 hP hPl
        go_wp2_with fail
        refine H7.out.mono ?_; rintro e w3 ⟨rfl, hT, ⟨us3, he3, ht3⟩, hb3⟩
        have HT3 := Lib.hid ht3
        have HE3 := Lib.hid he3
        have hlt3 := ht3.lt
        replace HB2 := Lib.hid (HB2.out.trans (hb3.mono hs2))
        have hs3 := hb3.size
        replace HI := Lib.hid (HI.out.below hb3 (by omega))
        clear hT ht3 he3 hb3 H7 HD
        go_wp2_with fail
        go_loopw [5] (fun i wr => ∃ k n : Nat, 1 ≤ k ∧ k ≤ 16 ∧ i = .int .i64 k ∧ wr = w3.drewN n ∧ ∀ (j : Nat), 1 ≤ j → j < k → (us.map RowV.xs)[j]? = some (nodeN P j)) (fun i _ => 16 - (intOf i).toNat)
        case atStart => exact ⟨1, 0, by omega, by omega, rfl, rfl, fun j h1 h2 => by omega⟩
        case round =>
          obtain ⟨k, n, hk1, hk, rfl, rfl, hall⟩ := hrel
          have HN1 := Lib.hid hall; clear hall
          by_cases hlt : k < 16
          · obtain ⟨b1, o1, r1, he, hr1, hc1, _, _, hI1⟩ := HI.out.at_ (k := k) (by rw [H32.out]; omega)
            simp only [Option.some.injEq, Addr.mk.injEq, and_true] at he
            obtain ⟨rfl, rfl⟩ := he
            obtain ⟨r2, hr2, hc2, _, hI2⟩ := HT3.out.at_ (k := k) (by omega)
            have e2 : r2.xs = nodeN P k := by
              have := xs_at hr2
              rw [HE3.out, tabL_at P (by omega) (by omega)] at this
              exact (Option.some.inj this).symm
            rw [e2] at hc2 hI2
            have hv2 := node_vec HPL.out HPV.out k (by omega) (by omega)
            have hl2 := vec_len hv2
            rw [hl2] at hc2
            have hnr := HN.out r1 (List.mem_of_getElem? hr1)
            obtain ⟨v, hv⟩ : ∃ v, sameB r1.xs (nodeN P k) = v := ⟨_, rfl⟩
            have h9 := fun m => l3Same_any _ _ _ _ _ _ _ _ r1.xs (nodeN P k) (w3.drewN m) (hI1.drewN m) (hI2.drewN m) hnr (by omega)
            rw [hl2, hv] at h9
            have H9 := Lib.hid h9
            have HV := Lib.hid hv
            have HV2 := Lib.hid hv2
            have HR1 := Lib.hid (xs_at hr1)
            have hklt : (k : Int) < 16 := by omega
            have hklt2 : (k : Int) < 32 := by omega
            have hk0 : (0 : Int) ≤ (k : Int) := by omega
            clear h9 hv hv2 hl2 hI1 hI2 hr1 hr2 e2
            go_wp2_with fail
            go_region_held3 (fun w' => w'.cell? ⟨b, off + k, none⟩ = some (.slice r1.a r1.xs.length r1.c) ∧ w'.cell? ⟨w2.heap.size, k, none⟩ = some (.slice r2.a 3 r2.c)) (exact ⟨hc1, hc2⟩)
              (first | (go_at_call 53; refine (H9.out (n + 1)).mono ?_; rintro e w5 ⟨rfl, n5, rfl⟩))
            cases v
            · have HE : Hid (idxB (us.map RowV.xs) = false) := Lib.hid (by
                rw [← Bool.not_eq_true]
                intro h
                have h1 := idxB_atn h hk1 hlt
                rw [HR1.out, ← List.map_drop, ← HP.out] at h1
                have h2 := (sameB_iff HV2.out).2 (Option.some.inj h1)
                rw [HV.out] at h2
                cases h2)
              go_wp2_with fail
              go_ret
              exact ⟨by simp [HE.out], Below.drewN HB2.out (n + 1 + n5)⟩
            · have HS : Hid (∀ (j : Nat), 1 ≤ j → j < k + 1 → (us.map RowV.xs)[j]? = some (nodeN P j)) := Lib.hid (fun j h1 h2 => by
                by_cases hjk : j = k
                · subst hjk; rw [HR1.out, (sameB_iff HV2.out).1 HV.out]
                · exact HN1.out j h1 (by omega))
              go_wp2_with fail
              exact ⟨⟨k + 1, _, by omega, by omega, by go_num, rfl, HS.out⟩, by simp [intOf]; omega⟩
          · have hkn : ¬ ((k : Int) < 16) := by omega
            have HE : Hid (idxB (us.map RowV.xs) = true) := Lib.hid (by
              refine idxB_of (by rw [List.length_map, H32.out]) HR.out (fun j h1 h2 r hr => ?_) fun j h1 h2 => ?_
              · rw [List.getElem?_map] at hr
                obtain ⟨x, hx, rfl⟩ := Option.map_eq_some_iff.1 hr
                exact HVD.out x (List.mem_of_getElem? (i := j - 16) (by rw [List.getElem?_drop, show 16 + (j - 16) = j by omega]; exact hx))
              · rw [← List.map_drop, ← HP.out]
                exact HN1.out j h1 (by omega))
            go_wp2_with fail
            go_ret
            exact ⟨by simp [HE.out], Below.drewN HB2.out n⟩
  · have hne : ((us.length : Int) != 32) = true := by simp only [bne_iff_ne, ne_eq]; omega
    have HE : Hid (idxB (us.map RowV.xs) = false) := Lib.hid (idxB_len (by simpa using h32))
    clear h32
    go_enter Try.func26, Try.ntmps26
    go_wp2_with fail
    go_ret
    exact ⟨by simp [HE.out], Below.refl _ _⟩
theorem indexFirstS_any (A : Option Addr) (c lo hi : Nat) (us : List RowV) (B : Option Addr) (d lo' hi' : Nat) (ys : List Int) (w : World) (hI : Rws w lo hi A c us) (hl : us.length ≤ 1048576) (hn : ∀ r, r ∈ us → r.xs.length ≤ 1048576) (h1 : hi ≤ w.heap.size)
    (hB : Ints w lo' hi' B d ys) (hly : ys.length ≤ 1048576) (h2 : hi' ≤ w.heap.size) :
    Calls Try.prog 30 #[.slice A us.length c, .slice B ys.length d] w fun e w' => e = .returned (.int .i64 (firstI (us.map RowV.xs) ys)) ∧ Below w.heap.size w w' := by
  have HI := Lib.hid hI; clear hI
  have HN := Lib.hid hn; clear hn
  have HY := Lib.hid hB; clear hB
  obtain ⟨vi, hvi⟩ : ∃ v, idxB (us.map RowV.xs) = v := ⟨_, rfl⟩
  obtain ⟨vn, hvn⟩ : ∃ v, vecB ys = v := ⟨_, rfl⟩
  have HVI := Lib.hid hvi; clear hvi
  have HVN := Lib.hid hvn; clear hvn
  cases vi
  · have HE : Hid (firstI (us.map RowV.xs) ys = -1) := Lib.hid (by unfold firstI; rw [HVI.out]; rfl)
    go_enter Try.func30, Try.ntmps30
    go_wp2_with fail
    refine (indexValidS_any _ _ _ _ us w HI.out hl HN.out h1).mono ?_; rintro e w1 ⟨rfl, hb⟩
    rw [HVI.out]
    have HB := Lib.hid hb; clear hb
    go_wp2_with fail
    go_ret
    exact ⟨by simp [HE.out], HB.out⟩
  cases vn
  · have HE : Hid (firstI (us.map RowV.xs) ys = -1) := Lib.hid (by unfold firstI; rw [HVI.out, HVN.out]; rfl)
    go_enter Try.func30, Try.ntmps30
    go_wp2_with fail
    refine (indexValidS_any _ _ _ _ us w HI.out hl HN.out h1).mono ?_; rintro e w1 ⟨rfl, hb⟩
    rw [HVI.out]
    have HB := Lib.hid hb; clear hb
    go_wp2_with fail
    refine (vecValidS_any _ _ _ _ ys w1 (HY.out.below HB.out h2) hly).mono ?_; rintro e w' ⟨rfl, rfl⟩
    rw [HVN.out]
    go_wp2_with fail
    go_ret
    exact ⟨by simp [HE.out], HB.out⟩
  have HE : Hid (firstI (us.map RowV.xs) ys = findL ys ((us.drop 16).map RowV.xs)) := Lib.hid (by unfold firstI; rw [HVI.out, HVN.out, List.map_drop]; rfl)
  have h32 : us.length = 32 := by have := (idxB_form HVI.out); obtain ⟨rs, h, _⟩ := this; have := congrArg List.length h; rw [tabL_len] at this; simpa using this
  have hall : ∀ r, r ∈ us → vecB r.xs = true := by
    have := HVI.out
    simp only [idxB, Bool.and_eq_true] at this
    exact rows_all this.1.2
  have h9 := indexValidS_any _ _ _ _ us w HI.out hl HN.out h1
  rw [h32, HVI.out] at h9
  rw [h32]
  have H9 := Lib.hid h9
  have H32 := Lib.hid h32
  have HAll := Lib.hid hall
  have h3 := vec_len HVN.out
  have HY3 := Lib.hid h3
  have h10 := fun W (hI : Ints W lo' hi' B d ys) => vecValidS_any _ _ _ _ ys W hI hly
  rw [h3, HVN.out] at h10
  rw [h3]
  have H10 := Lib.hid h10
  clear h9 hall h3 h10 h32 hl hly
  go_enter Try.func30, Try.ntmps30
  go_wp2_with fail
  refine H9.out.mono ?_; rintro e w1 ⟨rfl, hb⟩
  have HB := Lib.hid hb
  have HD : Hid (Rws w1 lo hi A c us) := Lib.hid (HI.out.below hb h1)
  replace HY := Lib.hid (HY.out.below hb h2)
  clear hb
  go_wp2_with fail
  refine (H10.out w1 HY.out).mono ?_; rintro e w' ⟨rfl, rfl⟩
  go_wp2_with fail
  go_loopw [5] (fun i wr => ∃ k n : Nat, k ≤ 16 ∧ i = .int .i64 k ∧ wr = w1.drewN n ∧ (∀ (j : Nat) r', j < k → ((us.drop 16).map RowV.xs)[j]? = some r' → fitsB ys r' = false)) (fun i _ => 16 - (intOf i).toNat)
  case atStart => exact ⟨0, 0, by omega, rfl, rfl, fun j r' hj => by omega⟩
  case round =>
    obtain ⟨k, n, hk, rfl, rfl, hall⟩ := hrel
    have HL := Lib.hid hall; clear hall
    by_cases hlt : k < 16
    · obtain ⟨b', off', r, rfl, hr, hc, _, _, hIr⟩ := HD.out.at_ (k := 16 + k) (by rw [H32.out]; omega)
      have hvr := HAll.out r (List.mem_of_getElem? hr)
      have hrm : ((us.drop 16).map RowV.xs)[k]? = some r.xs := by rw [List.getElem?_map, List.getElem?_drop, hr]; rfl
      obtain ⟨v, hv⟩ : ∃ v, fitsB ys r.xs = v := ⟨_, rfl⟩
      have h7 := fun m => l1Fits_any _ _ _ _ _ _ _ _ ys r.xs (w1.drewN m) (HY.out.drewN m) (hIr.drewN m) HY3.out (vec_len hvr)
      rw [HY3.out, hv] at h7
      have H7 := Lib.hid h7
      have HV := Lib.hid hv
      have HRM := Lib.hid hrm
      have hklt : (k : Int) < 16 := by omega
      clear hr hIr hvr hrm hv h7
      cases v
      · have HS : Hid (∀ (j : Nat) r', j < k + 1 → ((us.drop 16).map RowV.xs)[j]? = some r' → fitsB ys r' = false) := Lib.hid (fun j r' hj hr' => by
          by_cases hjk : j < k
          · exact HL.out j r' hjk hr'
          · obtain rfl : j = k := by omega
            rw [HRM.out] at hr'
            obtain rfl := Option.some.inj hr'
            exact HV.out)
        go_wp2_with fail
        refine (H7.out n).mono ?_; rintro e w' ⟨rfl, n2, rfl⟩
        go_wp2_with fail
        go_roundw
        case rel => exact ⟨k + 1, _, by omega, by go_num, rfl, HS.out⟩
        case measure => simp [intOf]; omega
      · have HF := Lib.hid (findL_at HRM.out HV.out HL.out)
        go_wp2_with fail
        refine (H7.out n).mono ?_; rintro e w' ⟨rfl, n2, rfl⟩
        go_wp2_with fail
        go_ret
        exact ⟨by simp [HE.out.trans HF.out], Below.drewN HB.out (n + n2)⟩
    · have HF : Hid (findL ys ((us.drop 16).map RowV.xs) = -1) := Lib.hid (findL_none fun j r hr => HL.out j r (by
        have := (List.getElem?_eq_some_iff.1 hr).1
        rw [List.length_map, List.length_drop, H32.out] at this; omega) hr)
      have hkn : ¬ ((k : Int) < 16) := by omega
      go_wp2_with fail
      go_ret
      exact ⟨by simp [HE.out.trans HF.out], Below.drewN HB.out n⟩
set_option maxHeartbeats 1000000 in
theorem indexPutS_any (A : Option Addr) (c lo hi : Nat) (us : List RowV) (i : Int) (B : Option Addr) (d lo' hi' : Nat) (ys : List Int) (w : World) (hI : Rws w lo hi A c us) (hl : us.length ≤ 1048576) (hn : ∀ r, r ∈ us → r.xs.length ≤ 1048576) (h1 : hi ≤ w.heap.size)
    (hB : Ints w lo' hi' B d ys) (hly : ys.length ≤ 1048576) (h2 : hi' ≤ w.heap.size) :
    Calls Try.prog 36 #[.slice A us.length c, .int .i64 i, .slice B ys.length d] w (RetP w (putR (us.map RowV.xs) i ys)) := by
  have HI := Lib.hid hI; clear hI
  have HN := Lib.hid hn; clear hn
  have HY := Lib.hid hB; clear hB
  obtain ⟨vi, hvi⟩ : ∃ v, idxB (us.map RowV.xs) = v := ⟨_, rfl⟩
  obtain ⟨va, hva⟩ : ∃ v, inB i 0 15 = v := ⟨_, rfl⟩
  obtain ⟨vn, hvn⟩ : ∃ v, vecB ys = v := ⟨_, rfl⟩
  have HVI := Lib.hid hvi; clear hvi
  have HVA := Lib.hid hva; clear hva
  have HVN := Lib.hid hvn; clear hvn
  have H8 := Lib.hid (indexValidS_any _ _ _ _ us w HI.out hl HN.out h1)
  have H9 := Lib.hid (fun W => l6In_any i 0 15 W)
  have H10 := Lib.hid (fun W hb => vecValidS_any _ _ _ _ ys W (HY.out.below (w' := W) (B := w.heap.size) hb h2) hly)
  cases vi
  · have HE : Hid (putR (us.map RowV.xs) i ys = ([], false)) := Lib.hid (by unfold putR; rw [HVI.out]; rfl)
    go_enter Try.func36, Try.ntmps36
    go_wp2_with fail
    refine H8.out.mono ?_; rintro e w1 ⟨rfl, hb⟩
    rw [HVI.out]
    have HB := Lib.hid hb; clear hb
    go_wp2_with fail
    go_ret2
    rw [HE.out]
    exact .inl ⟨rfl, some ⟨w1.heap.size, 0, none⟩, 0, by simp, by simp [maxLen], HB.out.trans ((alloc_below w1 _).mono (by have := HB.out.size; omega))⟩
  cases va
  · have HE : Hid (putR (us.map RowV.xs) i ys = ([], false)) := Lib.hid (by unfold putR; rw [HVI.out, HVA.out]; rfl)
    go_enter Try.func36, Try.ntmps36
    go_wp2_with fail
    refine H8.out.mono ?_; rintro e w1 ⟨rfl, hb⟩
    rw [HVI.out]
    have HB := Lib.hid hb; clear hb
    go_wp2_with fail
    refine (H9.out w1).mono ?_; rintro e w' ⟨rfl, rfl⟩
    rw [HVA.out]
    go_wp2_with fail
    go_ret2
    rw [HE.out]
    exact .inl ⟨rfl, some ⟨w1.heap.size, 0, none⟩, 0, by simp, by simp [maxLen], HB.out.trans ((alloc_below w1 _).mono (by have := HB.out.size; omega))⟩
  cases vn
  · have HE : Hid (putR (us.map RowV.xs) i ys = ([], false)) := Lib.hid (by unfold putR; rw [HVI.out, HVA.out, HVN.out]; rfl)
    go_enter Try.func36, Try.ntmps36
    go_wp2_with fail
    refine H8.out.mono ?_; rintro e w1 ⟨rfl, hb⟩
    rw [HVI.out]
    have HB := Lib.hid hb; clear hb
    go_wp2_with fail
    refine (H9.out w1).mono ?_; rintro e w' ⟨rfl, rfl⟩
    rw [HVA.out]
    go_wp2_with fail
    refine (H10.out w1 HB.out).mono ?_; rintro e w' ⟨rfl, rfl⟩
    rw [HVN.out]
    go_wp2_with fail
    go_ret2
    rw [HE.out]
    exact .inl ⟨rfl, some ⟨w1.heap.size, 0, none⟩, 0, by simp, by simp [maxLen], HB.out.trans ((alloc_below w1 _).mono (by have := HB.out.size; omega))⟩
  obtain ⟨k, rfl, hk⟩ : ∃ k : Nat, i = k ∧ k < 16 := by
    have := inB_of HVA.out
    exact ⟨i.toNat, by omega, by omega⟩
  have HE : Hid (putR (us.map RowV.xs) k ys = (tabL (((us.drop 16).map RowV.xs).set k ys), true)) := Lib.hid (by unfold putR; rw [HVI.out, HVA.out, HVN.out, List.map_drop]; rfl)
  have h32 : us.length = 32 := by have := (idxB_form HVI.out); obtain ⟨rs, h, _⟩ := this; have := congrArg List.length h; rw [tabL_len] at this; simpa using this
  have hall : ∀ r, r ∈ us → vecB r.xs = true := by
    have := HVI.out
    simp only [idxB, Bool.and_eq_true] at this
    exact rows_all this.1.2
  have h8 := H8.out
  rw [HVI.out] at h8
  replace H8 := Lib.hid h8
  have h10 := H10.out
  have h3 := vec_len HVN.out
  rw [h3, HVN.out] at h10
  replace H10 := Lib.hid h10
  rw [h3]
  have hlo : 16 ≤ us.length := by omega
  have hloi : (16 : Int) ≤ us.length := by omega
  have H32 := Lib.hid h32
  have HY3 := Lib.hid h3
  have HAll := Lib.hid hall
  obtain ⟨b, off, rfl, _⟩ := HI.out.1.form (by omega)
  have hle := HI.out.len
  have hc16 : ¬ c = 16 := by omega
  have hcl : 32 ≤ c := by omega
  have hlc : us.length ≤ c := by omega
  have hlci : (us.length : Int) ≤ c := by omega
  clear h8 hall hle h3 h10 h32 hl hly
  go_enter Try.func36, Try.ntmps36
  go_wp2_with fail
  refine H8.out.mono ?_; rintro e w1 ⟨rfl, hb⟩
  have HB := Lib.hid hb
  have HD : Hid (Rws w1 lo hi (some ⟨b, off + 16, none⟩) (c - 16) (us.drop 16)) := Lib.hid ((HI.out.below hb h1).drop16 (by rw [H32.out]; omega) hc16)
  have HDL : Hid ((us.drop 16).length = 16) := Lib.hid (by rw [List.length_drop, H32.out])
  replace HY := Lib.hid (HY.out.below hb h2)
  have hs1 := hb.size
  clear hb
  go_wp2_with fail
  refine (H9.out w1).mono ?_; rintro e w' ⟨rfl, rfl⟩
  rw [HVA.out]
  go_wp2_with fail
  refine (H10.out w1 HB.out).mono ?_; rintro e w' ⟨rfl, rfl⟩
  have HO0 : Hid ((w1.alloc (.cells #[] 28)).ownsRow w1.heap.size 28 1 (.slice (some ⟨w1.heap.size, 0, none⟩) 0 0) 0 []) := Lib.hid (ownsRow_empty w1 28 1)
  have hbE : Below w1.heap.size w1 (w1.alloc (.cells #[] 28)) := alloc_below w1 _
  have HBE := Lib.hid hbE
  have HDE : Hid (Rws (w1.alloc (.cells #[] 28)) lo hi (some ⟨b, off + 16, none⟩) (c - 16) (us.drop 16)) := Lib.hid (HD.out.below hbE (by omega))
  have HCE : Hid (Cells (w1.alloc (.cells #[] 28)) lo hi (some ⟨b, off + 16, none⟩) (c - 16) (us.length - 16) 1 ((us.drop 16).map rcell)) := Lib.hid (by have := HDE.out.1; rwa [List.length_drop] at this)
  have hs9 : w1.heap.size ≤ (w1.alloc (.cells #[] 28)).heap.size := by simp
  have hki : (k : Int) < 16 := by omega
  clear hbE
  have hmx : 0 + (us.length - 16) ≤ maxLen := by have := H32.out; simp only [maxLen]; omega
  have hmy : (0 + (us.length - 16)) * 24 ≤ 140737488355328 := by have := H32.out; omega
  have hkn : k < 0 + (us.length - 16) := by have := H32.out; omega
  have hpos : 0 < 0 + (us.length - 16) := by omega
  obtain ⟨r0, hr0⟩ : ∃ r, (us.drop 16)[k]? = some r := ⟨_, List.getElem?_eq_getElem (by rw [HDL.out]; exact hk)⟩
  have hq : ([] ++ (us.drop 16).map rcell)[k]? = some (.slice r0.a r0.xs.length r0.c) := by rw [List.nil_append, List.getElem?_map, hr0]; rfl
  have HQ := Lib.hid hq
  clear hq hr0
  have hkn2 : k < (0 + (us.length - 16)) * 1 := by omega
  go_wp2_with (at_builtin; refine wpList_appC elS rfl (.tmp 23) (.tmp 25) rfl (w1.alloc (.cells #[] 28)) HO0.out (some ⟨b, off + 16, none⟩) (us.length - 16) (c - 16) ((us.drop 16).map rcell) rfl rfl HCE.out (rcell_one _) hs9 hmx hmy ?_; intro A2 c2 w2 hown hb2 _; obtain ⟨g, cap, he, hg1, hg2⟩ := hown.form hpos; simp only [Nat.zero_add, Value.slice.injEq, true_and] at he; obtain ⟨rfl, rfl⟩ := he; have HO := Lib.hid hown; have HB2 := Lib.hid (HBE.out.trans hb2); have hd0 := (hown.cellAt k hkn2).trans HQ.out; have hf0 := hown.frozenAt k; clear hown hb2)
  have hO := HO.out
  rw [Nat.zero_add, List.nil_append] at hO
  replace HO := Lib.hid hO
  have hb2 := HB2.out
  have hs2 := hb2.size
  replace HD := Lib.hid (HD.out.below hb2 (by omega))
  replace HY := Lib.hid (HY.out.below hb2 (by omega))
  replace HB2 := Lib.hid (HB.out.trans (hb2.mono hs1))
  clear hb2 hO
  obtain ⟨w3, hw3⟩ : ∃ W, W = w2.setCell ⟨g, k, none⟩ (.slice B 3 d) := ⟨_, rfl⟩
  rw [← hw3]
  have hb3 : Below w1.heap.size w2 w3 := by rw [hw3]; exact (Below.refl _ _).setCell (p := ⟨g, k, none⟩) hg1 _
  have hs3 : w3.heap.size = w2.heap.size := by rw [hw3]; simp [World.setCell]
  have hst := (HO.out.stored k (.slice B 3 d)).1
  rw [← hw3] at hst
  obtain ⟨vs, hvs⟩ : ∃ vs : List RowV, vs = (us.drop 16).set k ⟨B, d, ys⟩ := ⟨_, rfl⟩
  have hcell : (Value.slice B 3 d) = rcell ⟨B, d, ys⟩ := by simp [rcell, HY3.out]
  rw [hcell, ← List.map_set, ← hvs] at hst
  have hvl : vs.length = us.length - 16 := by rw [hvs, List.length_set, List.length_drop]
  have hR : Rws w3 0 w3.heap.size (some ⟨g, 0, none⟩) c2 vs := by
    obtain ⟨A9, c9, he, hR⟩ := Rws.of_own (lo := 0) hst hvl.symm (fun r hr => by
      rw [hvs] at hr
      rcases List.mem_or_eq_of_mem_set hr with h | rfl
      · exact ((HD.out.2 r h).below hb3 (by omega)).mono (Nat.zero_le _) (by omega)
      · exact (HY.out.below hb3 (by omega)).mono (Nat.zero_le _) (by omega)) (Nat.zero_le _)
    simp only [Value.slice.injEq] at he
    obtain ⟨rfl, -, rfl⟩ := he
    exact hR
  have hva : ∀ r, r ∈ vs → vecB r.xs = true := fun r hr => by
    rw [hvs] at hr
    rcases List.mem_or_eq_of_mem_set hr with h | rfl
    · exact HAll.out r (List.mem_of_mem_drop h)
    · exact HVN.out
  have hvm : vs.map RowV.xs = ((us.drop 16).map RowV.xs).set k ys := by rw [hvs, List.map_set]
  have HR := Lib.hid hR
  have HVL := Lib.hid hvl
  have HVV := Lib.hid hva
  have HVM := Lib.hid hvm
  have HB3 := Lib.hid (HB2.out.trans (hb3.mono hs1))
  obtain ⟨hs3a, hs3b⟩ : w2.heap.size ≤ w3.heap.size ∧ w3.heap.size ≤ w2.heap.size := by omega
  have h7 := l3Build_any (some ⟨g, 0, none⟩) c2 vs w3 HR.out (by rw [HVL.out]; have := H32.out; omega) HVV.out
  rw [HVL.out, padL_full (by rw [List.length_map, HVL.out]; have := H32.out; omega)] at h7
  have H7 := Lib.hid h7
  clear hw3 hb3 hs3 hst hvs hcell hvl hR hva hvm h7
  refine H7.out.mono ?_; rintro e w4 ⟨rfl, hT, ⟨us4, he4, ht4⟩, hb4⟩
  have HF : Hid (RetP w (putR (us.map RowV.xs) k ys) (.returned (.tuple #[.slice (some ⟨w3.heap.size, 0, none⟩) 32 32, .bool true])) w4) := Lib.hid (.inr ⟨w3.heap.size, us4, by rw [HE.out, he4, HVM.out], ht4.len, rfl, by omega, ht4, HB3.out.trans (hb4.mono (by omega))⟩)
  clear hT he4 ht4 hb4
  go_wp2_with fail
  go_ret2
  exact HF.out
end Go.Proofs.Ytpjipofkpikipaa
