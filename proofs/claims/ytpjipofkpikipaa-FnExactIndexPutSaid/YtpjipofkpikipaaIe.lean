/- The program's index functions: IndexValid, IndexFirst, IndexPut. No condition but on sizes. -/
import Derived.Test.YtpjipofkpikipaaId
namespace Go.Proofs.Ytpjipofkpikipaa
open Go.RowKit
theorem take_eq_succ {a b : List Int} {k : Nat} {x : Int} (h : a.take k = b.take k) (ha : a[k]? = some x) (hb : b[k]? = some x) : a.take (k + 1) = b.take (k + 1) := by
  rw [take_succ_some ha, take_succ_some hb, h]
theorem ne_at {α : Type} {a b : List α} {k : Nat} {x y : α} (ha : a[k]? = some x) (hb : b[k]? = some y) (h : x ≠ y) : a ≠ b := by
  rintro rfl
  rw [ha] at hb
  exact h (Option.some.inj hb)
theorem equal_any (A B : Option Addr) (c d lo hi lo' hi' : Nat) (a b : List Int) (w : World) (hA : Ints w lo hi A c a) (hB : Ints w lo' hi' B d b) (hla : a.length ≤ 1048576) (_hlb : b.length ≤ 1048576) :
    Calls Try.prog 56 #[.slice A a.length c, .slice B b.length d] w fun e w' => ∃ v : Bool, e = .returned (.bool v) ∧ (v = true ↔ a = b) ∧ ∃ n, w' = w.drewN n := by
  have HA := Lib.hid hA; clear hA
  have HB := Lib.hid hB; clear hB
  by_cases hl : a.length = b.length
  · have HL := Lib.hid hl
    rw [← hl]
    clear hl
    go_enter Try.func56, Try.ntmps56
    go_wp2_with fail
    go_loopw [13] (fun i wr => ∃ k n : Nat, k ≤ a.length ∧ i = .int .i64 k ∧ wr = w.drewN n ∧ a.take k = b.take k) (fun i _ => a.length - (intOf i).toNat)
    case atStart => exact ⟨0, 0, by omega, rfl, rfl, rfl⟩
    case round =>
      obtain ⟨k, n, hk, rfl, rfl, hall⟩ := hrel
      have HQ := Lib.hid hall; clear hall
      by_cases hlt : k < a.length
      · obtain ⟨p, off, x, rfl, hx, hc, _, _, _⟩ := HA.out.at_ hlt
        obtain ⟨p', off', y, rfl, hy, hc', _, _, _⟩ := HB.out.at_ (k := k) (by have := HL.out; omega)
        have HX := Lib.hid hx
        have HY := Lib.hid hy
        have hklt : (k : Int) < a.length := by omega
        have hkltb : (k : Int) < b.length := by have := HL.out; omega
        clear hx hy
        by_cases hxy : x = y
        · subst hxy
          have HS := Lib.hid (take_eq_succ HQ.out HX.out HY.out)
          go_wp2_with fail
          go_quiet (fail)
          go_wp2_with fail
          exact ⟨⟨k + 1, _, by omega, by go_num, rfl, HS.out⟩, by simp [intOf]; omega⟩
        · have hne : (x != y) = true := by simpa using hxy
          have HN := Lib.hid (ne_at HX.out HY.out hxy)
          clear hxy
          go_wp2_with fail
          go_quiet (fail)
          go_wp2_with fail
          go_ret
          exact ⟨false, by simp, by simp [HN.out], n + nq, by simp [World.drewN, Nat.add_assoc]⟩
      · have HE : Hid (a = b) := Lib.hid (by
          have := HQ.out
          rwa [List.take_of_length_le (by omega), List.take_of_length_le (by have := HL.out; omega)] at this)
        go_wp2_with fail
        go_ret
        exact ⟨true, by simp, by simp [HE.out], n, rfl⟩
  · have hne : ((a.length : Int) == (b.length : Int)) = false := by simp only [beq_eq_false_iff_ne, ne_eq]; omega
    have hne2 : ((a.length : Int) != (b.length : Int)) = true := by simp only [bne_iff_ne, ne_eq]; omega
    have HL := Lib.hid hl
    clear hl
    go_enter Try.func56, Try.ntmps56
    go_wp2_with fail
    go_ret
    exact ⟨false, by simp, by simp; intro h; exact HL.out (by rw [h]), 0, rfl⟩
theorem rows_take_eq {us vs : List RowV} {k : Nat} {x y : RowV} (h : (us.take k).map RowV.xs = (vs.take k).map RowV.xs) (hx : us[k]? = some x) (hy : vs[k]? = some y) (he : x.xs = y.xs) : (us.take (k + 1)).map RowV.xs = (vs.take (k + 1)).map RowV.xs := by
  rw [take_succ_some hx, take_succ_some hy, List.map_append, List.map_append, h, List.map_cons, List.map_cons, he]
theorem rows_ne_at {us vs : List RowV} {k : Nat} {x y : RowV} (hx : us[k]? = some x) (hy : vs[k]? = some y) (he : x.xs ≠ y.xs) : us.map RowV.xs ≠ vs.map RowV.xs :=
  ne_at (k := k) (by rw [List.getElem?_map, hx]; rfl) (by rw [List.getElem?_map, hy]; rfl) he
theorem equalFunc_any (A B : Option Addr) (c d lo hi lo' hi' : Nat) (us vs : List RowV) (w : World) (hA : Rws w lo hi A c us) (hB : Rws w lo' hi' B d vs) (hl : us.length = vs.length) (hla : us.length ≤ 1048576) (hua : ∀ r, r ∈ us → r.xs.length ≤ 1048576) (hub : ∀ r, r ∈ vs → r.xs.length ≤ 1048576) :
    Calls Try.prog 55 #[.slice A us.length c, .slice B us.length d, .func (.func 56) #[] #[]] w fun e w' => ∃ v : Bool, e = .returned (.bool v) ∧ (v = true ↔ us.map RowV.xs = vs.map RowV.xs) ∧ ∃ n, w' = w.drewN n := by
  have HA := Lib.hid hA; clear hA
  have HB := Lib.hid hB; clear hB
  have HL := Lib.hid hl; clear hl
  have HUA := Lib.hid hua; clear hua
  have HUB := Lib.hid hub; clear hub
  have hlb : vs.length ≤ 1048576 := by have := HL.out; omega
  have hnn : ((us.length : Int) != (vs.length : Int)) = false := by have := HL.out; simp only [bne_eq_false_iff_eq]; omega
  go_enter Try.func55, Try.ntmps55
  go_wp2_with fail
  go_loopw [17] (fun i wr => ∃ k n : Nat, k ≤ us.length ∧ i = .int .i64 k ∧ wr = w.drewN n ∧ (us.take k).map RowV.xs = (vs.take k).map RowV.xs) (fun i _ => us.length - (intOf i).toNat)
  case atStart => exact ⟨0, 0, by omega, rfl, rfl, rfl⟩
  case round =>
    obtain ⟨k, n, hk, rfl, rfl, hall⟩ := hrel
    have HQ := Lib.hid hall; clear hall
    by_cases hlt : k < us.length
    · obtain ⟨p, off, x, rfl, hx, hc, _, _, hIx⟩ := HA.out.at_ hlt
      obtain ⟨p', off', y, rfl, hy, hc', _, _, hIy⟩ := HB.out.at_ (k := k) (by have := HL.out; omega)
      have hxl := HUA.out x (List.mem_of_getElem? hx)
      have hyl := HUB.out y (List.mem_of_getElem? hy)
      have HX := Lib.hid hx
      have HY := Lib.hid hy
      have HIX := Lib.hid (Ints.drewN hIx n)
      have HIY := Lib.hid (Ints.drewN hIy n)
      have hklt : (k : Int) < us.length := by omega
      have hkltb : (k : Int) < vs.length := by have := HL.out; omega
      clear hx hy hIx hIy
      go_wp2_with fail
      refine (equal_any _ _ _ _ _ _ _ _ x.xs y.xs _ HIX.out HIY.out hxl hyl).mono ?_; rintro e w2 ⟨v, rfl, hv, n2, rfl⟩
      cases v
      · have HN := Lib.hid (rows_ne_at HX.out HY.out (fun h => by have := hv.2 h; cases this))
        clear hv
        go_wp2_with fail
        go_ret
        exact ⟨false, by simp, by simp [HN.out], n + n2, by simp [World.drewN]⟩
      · have HS := Lib.hid (rows_take_eq HQ.out HX.out HY.out (hv.1 rfl))
        clear hv
        go_wp2_with fail
        exact ⟨⟨k + 1, n + n2, by omega, by go_num, by simp [World.drewN], HS.out⟩, by simp [intOf]; omega⟩
    · have HE : Hid (us.map RowV.xs = vs.map RowV.xs) := Lib.hid (by
        have := HQ.out
        rwa [List.take_of_length_le (by omega), List.take_of_length_le (by have := HL.out; omega)] at this)
      go_wp2_with fail
      go_ret
      exact ⟨true, by simp, by simp [HE.out], n, rfl⟩
theorem Rws.drop16 {w : World} {lo hi c b off : Nat} {rs : List RowV} (h : Rws w lo hi (some ⟨b, off, none⟩) c rs) (hk : 16 ≤ rs.length) (hc : ¬ c = 16) : Rws w lo hi (some ⟨b, off + 16, none⟩) (c - 16) (rs.drop 16) := by
  have := h.drop hk
  rw [if_neg hc] at this
  simpa [Addr.add] using this
theorem drewN_below (w : World) (n B : Nat) : Below B w (w.drewN n) := Below.drewN (Below.refl _ _) n
theorem idxB_all {us : List RowV} (hl : us.length = 32) (hv : rowsB us = true) : idxB (us.map RowV.xs) = decide (us.map RowV.xs = tabL ((us.drop 16).map RowV.xs)) := by
  have h2 : (us.map RowV.xs).all vecB = true := hv
  simp only [idxB, h2, List.length_map, hl, List.map_drop]; simp
theorem indexValid_any (A : Option Addr) (c lo hi : Nat) (us : List RowV) (w : World) (hI : Rws w lo hi A c us) (hl : us.length ≤ 1048576) (hn : ∀ r, r ∈ us → r.xs.length ≤ 1048576) (h1 : hi ≤ w.heap.size) :
    Calls Try.prog 27 #[.slice A us.length c] w fun e w' => e = .returned (.bool (idxB (us.map RowV.xs))) ∧ Below w.heap.size w w' := by
  have HI := Lib.hid hI; clear hI
  have HN := Lib.hid hn; clear hn
  by_cases h32 : us.length = 32
  · have H32 := Lib.hid h32
    have hle := HI.out.len
    rw [h32] at hl ⊢
    have hc16 : ¬ c = 16 := by omega
    have hcl : 32 ≤ c := by omega
    clear h32
    cases hv : rowsB us
    · have HE : Hid (idxB (us.map RowV.xs) = false) := Lib.hid (by unfold idxB; rw [show (us.map RowV.xs).all vecB = false from hv]; simp)
      have HV := Lib.hid hv; clear hv
      have h9 := containsRows2_any _ _ _ _ us w HI.out (by rw [H32.out]; omega) HN.out
      rw [H32.out] at h9
      have H9 := Lib.hid h9; clear h9
      go_enter Try.func27, Try.ntmps27
      go_wp2_with fail
      refine H9.out.mono ?_; rintro e w' ⟨rfl, rfl⟩
      rw [HV.out]
      go_wp2_with fail
      go_ret
      exact ⟨by simp [HE.out], Below.refl _ _⟩
    · have HE := Lib.hid (idxB_all H32.out hv)
      have HVR := Lib.hid (rows_all hv)
      have HV := Lib.hid hv; clear hv
      have h9 := containsRows2_any _ _ _ _ us w HI.out (by rw [H32.out]; omega) HN.out
      rw [H32.out] at h9
      have H9 := Lib.hid h9; clear h9
      obtain ⟨b, off, rfl, _⟩ := HI.out.1.form (by have := H32.out; omega)
      have HD : Hid (Rws w 0 w.heap.size (some ⟨b, off + 16, none⟩) (c - 16) (us.drop 16)) := Lib.hid ((HI.out.mono (Nat.zero_le _) h1).drop16 (by rw [H32.out]; omega) hc16)
      have HDL : Hid ((us.drop 16).length = 16) := Lib.hid (by rw [List.length_drop, H32.out])
      go_enter Try.func27, Try.ntmps27
      go_wp2_with fail
      refine H9.out.mono ?_; rintro e w' ⟨rfl, rfl⟩
      rw [HV.out]
      go_wp2_with fail
      refine (tableOf_any _ _ (us.drop 16) w HD.out HDL.out (fun r hr => HVR.out r (List.mem_of_mem_drop hr))).mono ?_; rintro e w1 ⟨rfl, hT, ⟨us1, he1, ht1⟩, hb1⟩
      have hl1 : us1.length = 32 := ht1.len
      have h7 := equalFunc_any _ _ _ _ _ _ _ _ us us1 w1 (HI.out.below hb1 h1) ht1.rws (by rw [H32.out, hl1]) (by rw [H32.out]; omega) HN.out (fun r hr => by
        have h2 : r.xs ∈ us1.map RowV.xs := List.mem_map.2 ⟨r, hr, rfl⟩
        rw [he1] at h2
        have h3 := tab_vec (rs := (us.drop 16).map RowV.xs) (by rw [List.length_map, HDL.out]) (fun x hx => by
          obtain ⟨y, hy, rfl⟩ := List.mem_map.1 hx
          exact HVR.out y (List.mem_of_mem_drop hy))
        rw [List.all_eq_true] at h3
        have := vec_len (h3 _ h2)
        omega)
      rw [H32.out, he1] at h7
      have H7 := Lib.hid h7
      have HB1 := Lib.hid hb1
      clear hT he1 ht1 hb1 hl1 h7
      go_wp2_with fail
      refine H7.out.mono ?_; rintro e w2 ⟨v, rfl, hv, n, rfl⟩
      have hvv : v = idxB (us.map RowV.xs) := by
        rw [HE.out, Bool.eq_iff_iff, hv, decide_eq_true_iff]
      have HVV := Lib.hid hvv
      clear hv hvv
      go_wp2_with fail
      go_ret
      exact ⟨by simp [HVV.out], Below.drewN HB1.out n⟩
  · have hne : ((us.length : Int) != 32) = true := by simp only [bne_iff_ne, ne_eq]; omega
    have HE : Hid (idxB (us.map RowV.xs) = false) := Lib.hid (idxB_len (by simpa using h32))
    clear h32
    go_enter Try.func27, Try.ntmps27
    go_wp2_with fail
    go_ret
    exact ⟨by simp [HE.out], Below.refl _ _⟩
end Go.Proofs.Ytpjipofkpikipaa
