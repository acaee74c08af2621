/- Plain laws of the index: what its functions return, over lists. No program. No condition. -/
import Derived.Test.YtpjipofkpikipaaMem
namespace Go.Proofs.Ytpjipofkpikipaa
open Go.RowKit
/-- the vector of the node with number k that is h levels above the rooms -/
def nodeL (rs : List (List Int)) : Nat → Nat → List Int
  | 0, k => rs.getD (k - 16) []
  | h + 1, k => maxL (nodeL rs h (2 * k)) (nodeL rs h (2 * k + 1))
def htN (k : Nat) : Nat := if 16 ≤ k then 0 else if 8 ≤ k then 1 else if 4 ≤ k then 2 else if 2 ≤ k then 3 else 4
def nodeN (rs : List (List Int)) (k : Nat) : List Int := nodeL rs (htN k) k
theorem nodeN_leaf (rs : List (List Int)) (i : Nat) : nodeN rs (16 + i) = rs.getD i [] := by
  simp [nodeN, htN, nodeL]
theorem nodeN_up (rs : List (List Int)) {k : Nat} (h1 : 1 ≤ k) (h2 : k < 16) : nodeN rs k = maxL (nodeN rs (2 * k)) (nodeN rs (2 * k + 1)) := by
  have h : htN k = htN (2 * k) + 1 ∧ htN (2 * k + 1) = htN (2 * k) := by
    unfold htN; repeat' split
    all_goals omega
  unfold nodeN; rw [h.1, h.2]; rfl
/-- the table of sixteen rooms -/
def tabL (rs : List (List Int)) : List (List Int) := [0, 0, 0] :: (List.range 31).map (fun i => nodeN rs (i + 1))
theorem tabL_len (rs : List (List Int)) : (tabL rs).length = 32 := by simp [tabL]
theorem tabL_zero (rs : List (List Int)) : (tabL rs)[0]? = some [0, 0, 0] := rfl
theorem tabL_at (rs : List (List Int)) {k : Nat} (h1 : 1 ≤ k) (h2 : k < 32) : (tabL rs)[k]? = some (nodeN rs k) := by
  obtain ⟨j, rfl⟩ : ∃ j, k = j + 1 := ⟨k - 1, by omega⟩
  simp only [tabL, List.getElem?_cons_succ, List.getElem?_map, List.getElem?_range (show j < 31 by omega), Option.map_some]
theorem tabL_eq {us rs : List (List Int)} (hl : us.length = 32) (h0 : us[0]? = some [0, 0, 0]) (h : ∀ k, 1 ≤ k → k < 32 → us[k]? = some (nodeN rs k)) : us = tabL rs := by
  apply List.ext_getElem?
  intro k
  by_cases hk : k < 32
  · by_cases h1 : k = 0
    · subst h1; rw [h0, tabL_zero]
    · rw [h k (by omega) hk, tabL_at rs (by omega) hk]
  · rw [List.getElem?_eq_none (by omega), List.getElem?_eq_none (by rw [tabL_len]; omega)]
theorem tabL_drop {rs : List (List Int)} (h : rs.length = 16) : (tabL rs).drop 16 = rs := by
  apply List.ext_getElem?
  intro i
  rw [List.getElem?_drop]
  by_cases hi : i < 16
  · rw [tabL_at rs (by omega) (by omega), nodeN_leaf, List.getD, List.getElem?_eq_getElem (by omega)]; rfl
  · rw [List.getElem?_eq_none (by rw [tabL_len]; omega), List.getElem?_eq_none (by omega)]
/-- rooms and empty ones -/
def padL (rs : List (List Int)) : List (List Int) := rs ++ List.replicate (16 - rs.length) [0, 0, 0]
theorem padL_len {rs : List (List Int)} (h : rs.length ≤ 16) : (padL rs).length = 16 := by simp [padL]; omega
/-- what both IndexOf return -/
def idxOf (rs : List (List Int)) : List (List Int) := if rs.all vecB && decide (rs.length ≤ 14) then tabL (padL rs) else []
/-- what both IndexValid return -/
def idxB (t : List (List Int)) : Bool := decide (t.length = 32) && t.all vecB && decide (t = tabL (t.drop 16))
def findL (need : List Int) (rooms : List (List Int)) : Int := match rooms.findIdx? (fun r => fitsB need r) with | some i => (i : Int) | none => -1
/-- what both IndexFirst return -/
def firstI (t : List (List Int)) (need : List Int) : Int := if idxB t && vecB need then findL need (t.drop 16) else -1
/-- what both IndexPut return -/
def putR (t : List (List Int)) (at_ : Int) (room : List Int) : List (List Int) × Bool := if idxB t && inB at_ 0 15 && vecB room then (tabL ((t.drop 16).set at_.toNat room), true) else ([], false)
/-! ### vectors -/
theorem vec_max {a b : List Int} (ha : vecB a = true) (hb : vecB b = true) : vecB (maxL a b) = true := by
  obtain ⟨x, y, z, rfl, h⟩ := vec_form ha
  obtain ⟨x', y', z', rfl, h'⟩ := vec_form hb
  exact vec_mk (by omega)
theorem fit3 {a b c x y z : Int} : fitsB [a, b, c] [x, y, z] = true ↔ a ≤ x ∧ b ≤ y ∧ c ≤ z := by simp [fitsB]
theorem fit_refl {a : List Int} (ha : vecB a = true) : fitsB a a = true := by
  obtain ⟨x, y, z, rfl, h⟩ := vec_form ha
  exact fit3.2 (by omega)
theorem fit_trans {a b c : List Int} (ha : vecB a = true) (hb : vecB b = true) (hc : vecB c = true) (h1 : fitsB a b = true) (h2 : fitsB b c = true) : fitsB a c = true := by
  obtain ⟨x, y, z, rfl, h⟩ := vec_form ha
  obtain ⟨x', y', z', rfl, h'⟩ := vec_form hb
  obtain ⟨x'', y'', z'', rfl, h''⟩ := vec_form hc
  have := fit3.1 h1
  have := fit3.1 h2
  exact fit3.2 (by omega)
theorem fit_anti {a b : List Int} (ha : vecB a = true) (hb : vecB b = true) (h1 : fitsB a b = true) (h2 : fitsB b a = true) : a = b := by
  obtain ⟨x, y, z, rfl, h⟩ := vec_form ha
  obtain ⟨x', y', z', rfl, h'⟩ := vec_form hb
  have := fit3.1 h1
  have := fit3.1 h2
  simp; omega
theorem fit_max {a b : List Int} (ha : vecB a = true) (hb : vecB b = true) : fitsB a (maxL a b) = true ∧ fitsB b (maxL a b) = true := by
  obtain ⟨x, y, z, rfl, h⟩ := vec_form ha
  obtain ⟨x', y', z', rfl, h'⟩ := vec_form hb
  exact ⟨fit3.2 (by omega), fit3.2 (by omega)⟩
theorem vec_zero : vecB [0, 0, 0] = true := rfl
def sameB (a b : List Int) : Bool := vecB a && vecB b && fitsB a b && fitsB b a
theorem sameB_iff {a b : List Int} (hb : vecB b = true) : sameB a b = true ↔ a = b := by
  simp only [sameB, Bool.and_eq_true]
  constructor
  · intro h; exact fit_anti h.1.1.1 h.1.1.2 h.1.2 h.2
  · rintro rfl; exact ⟨⟨⟨hb, hb⟩, fit_refl hb⟩, fit_refl hb⟩
/-! ### nodes -/
theorem node_vec {rs : List (List Int)} (hl : rs.length = 16) (h : ∀ r, r ∈ rs → vecB r = true) : ∀ k, 1 ≤ k → k < 32 → vecB (nodeN rs k) = true := by
  have key : ∀ n k, 32 - k ≤ n → 1 ≤ k → k < 32 → vecB (nodeN rs k) = true := by
    intro n
    induction n with
    | zero => intro k; omega
    | succ n ih =>
      intro k hn h1 h2
      by_cases h3 : k < 16
      · rw [nodeN_up rs h1 h3]
        exact vec_max (ih _ (by omega) (by omega) (by omega)) (ih _ (by omega) (by omega) (by omega))
      · obtain ⟨i, rfl⟩ : ∃ i, k = 16 + i := ⟨k - 16, by omega⟩
        rw [nodeN_leaf, List.getD, List.getElem?_eq_getElem (by omega)]
        exact h _ (List.getElem_mem _)
  intro k; exact key (32 - k) k (Nat.le_refl _)
theorem tab_vec {rs : List (List Int)} (hl : rs.length = 16) (h : ∀ r, r ∈ rs → vecB r = true) : (tabL rs).all vecB = true := by
  rw [List.all_eq_true]
  intro r hr
  obtain ⟨k, hk⟩ := List.getElem?_of_mem hr
  have hk2 : k < 32 := by have := (List.getElem?_eq_some_iff.1 hk).1; rwa [tabL_len] at this
  by_cases h0 : k = 0
  · subst h0; rw [tabL_zero] at hk; obtain rfl := Option.some.inj hk; rfl
  · rw [tabL_at rs (by omega) hk2] at hk; obtain rfl := Option.some.inj hk
    exact node_vec hl h k (by omega) hk2
theorem idxB_tab {rs : List (List Int)} (hl : rs.length = 16) (h : ∀ r, r ∈ rs → vecB r = true) : idxB (tabL rs) = true := by
  simp only [idxB, Bool.and_eq_true, decide_eq_true_eq]
  exact ⟨⟨tabL_len rs, tab_vec hl h⟩, by rw [tabL_drop hl]⟩
theorem idxB_form {t : List (List Int)} (h : idxB t = true) : ∃ rs : List (List Int), t = tabL rs ∧ rs.length = 16 ∧ (∀ r, r ∈ rs → vecB r = true) ∧ t.drop 16 = rs := by
  simp only [idxB, Bool.and_eq_true, decide_eq_true_eq, List.all_eq_true] at h
  exact ⟨t.drop 16, h.2, by simp [h.1.1], fun r hr => h.1.2 r (List.mem_of_mem_drop hr), rfl⟩
theorem node_fit {rs : List (List Int)} (hl : rs.length = 16) (h : ∀ r, r ∈ rs → vecB r = true) {k : Nat} (h1 : 2 ≤ k) (h2 : k < 32) : fitsB (nodeN rs k) (nodeN rs (k / 2)) = true := by
  have hv := node_vec hl h
  rw [nodeN_up rs (k := k / 2) (by omega) (by omega)]
  have e : k = 2 * (k / 2) ∨ k = 2 * (k / 2) + 1 := by omega
  have := fit_max (hv (2 * (k / 2)) (by omega) (by omega)) (hv (2 * (k / 2) + 1) (by omega) (by omega))
  rcases e with e | e
  · rw [← e] at this ⊢; exact this.1
  · rw [← e] at this ⊢; exact this.2
theorem node_top {rs : List (List Int)} (hl : rs.length = 16) (h : ∀ r, r ∈ rs → vecB r = true) : ∀ k, 1 ≤ k → k < 32 → fitsB (nodeN rs k) (nodeN rs 1) = true := by
  have hv := node_vec hl h
  have key : ∀ n k, k ≤ n → 1 ≤ k → k < 32 → fitsB (nodeN rs k) (nodeN rs 1) = true := by
    intro n
    induction n with
    | zero => intro k; omega
    | succ n ih =>
      intro k hn h1 h2
      by_cases h3 : k = 1
      · subst h3; exact fit_refl (hv 1 (by omega) (by omega))
      · exact fit_trans (hv k h1 h2) (hv (k / 2) (by omega) (by omega)) (hv 1 (by omega) (by omega)) (node_fit hl h (by omega) h2) (ih (k / 2) (by omega) (by omega) (by omega))
  intro k; exact key k k (Nat.le_refl _)
/-- a room fits the first node -/
theorem room_top {rs : List (List Int)} (hl : rs.length = 16) (h : ∀ r, r ∈ rs → vecB r = true) {i : Nat} {r : List Int} (hi : rs[i]? = some r) : vfitsB r (nodeN rs 1) = true := by
  have hi16 : i < 16 := by have := (List.getElem?_eq_some_iff.1 hi).1; omega
  have := node_top hl h (16 + i) (by omega) (by omega)
  rw [nodeN_leaf, List.getD, hi] at this
  simp only [vfitsB, Bool.and_eq_true]
  exact ⟨⟨h r (List.mem_of_getElem? hi), node_vec hl h 1 (by omega) (by omega)⟩, this⟩
/-- nodes that are not above a room do not hang on it -/
theorem nodeL_congr {rs rs' : List (List Int)} {h k : Nat} (hk : 16 ≤ k * 2 ^ h) (hh : ∀ j, (16 + j) / 2 ^ h = k → rs[j]? = rs'[j]?) : nodeL rs h k = nodeL rs' h k := by
  induction h generalizing k with
  | zero =>
    have := hh (k - 16) (by simp at hk ⊢; omega)
    simp only [nodeL, List.getD, this]
  | succ h ih =>
    have hp : 2 ^ (h + 1) = 2 ^ h * 2 := Nat.pow_succ ..
    have e : k * 2 ^ (h + 1) = 2 * k * 2 ^ h := by rw [hp, Nat.mul_comm (2 ^ h) 2, ← Nat.mul_assoc, Nat.mul_comm k 2]
    have hd : ∀ j, (16 + j) / 2 ^ (h + 1) = (16 + j) / 2 ^ h / 2 := fun j => by rw [hp, Nat.div_div_eq_div_mul]
    have e2 : (2 * k + 1) * 2 ^ h = 2 * k * 2 ^ h + 2 ^ h := by rw [Nat.add_mul, Nat.one_mul]
    have h1 := ih (k := 2 * k) (by omega) (fun j hj => hh j (by rw [hd, hj]; omega))
    have h2 := ih (k := 2 * k + 1) (by omega) (fun j hj => hh j (by rw [hd, hj]; omega))
    rw [nodeL, nodeL, h1, h2]
theorem node_way {rs : List (List Int)} {at_ k : Nat} (room : List Int) (h1 : 1 ≤ k) (h2 : k < 32) (hn : ∀ d, d < 5 → (16 + at_) / 2 ^ d ≠ k) : nodeN (rs.set at_ room) k = nodeN rs k := by
  refine nodeL_congr ?_ fun j hj => ?_
  · unfold htN; repeat' split
    all_goals omega
  · rw [List.getElem?_set_ne]
    rintro rfl
    exact hn (htN k) (by unfold htN; repeat' split
                         all_goals omega) hj
/-! ### what the laws say -/
theorem vfits_of {a b : List Int} (ha : vecB a = true) (hb : vecB b = true) : vfitsB a b = fitsB a b := by simp [vfitsB, ha, hb]
theorem padL_at {rs : List (List Int)} {i : Nat} {r : List Int} (h : rs[i]? = some r) : (padL rs)[i]? = some r := by
  rw [padL, List.getElem?_append_left (List.getElem?_eq_some_iff.1 h).1]; exact h
theorem padL_out {rs : List (List Int)} {i : Nat} (h : rs.length ≤ i) (hi : i < 16) : (padL rs)[i]? = some [0, 0, 0] := by
  rw [padL, List.getElem?_append_right h, List.getElem?_replicate, if_pos (by omega)]
theorem padL_vec {rs : List (List Int)} (h : ∀ r, r ∈ rs → vecB r = true) : ∀ r, r ∈ padL rs → vecB r = true := by
  intro r hr
  rcases List.mem_append.1 hr with h1 | h1
  · exact h r h1
  · rw [(List.mem_replicate.1 h1).2]; rfl
theorem idxOf_form {rs : List (List Int)} (h : (idxOf rs).length ≠ 0) : idxOf rs = tabL (padL rs) ∧ (∀ r, r ∈ rs → vecB r = true) ∧ rs.length ≤ 14 ∧ (padL rs).length = 16 := by
  unfold idxOf at h ⊢
  split at h
  · rename_i hc
    rw [if_pos hc]
    simp only [Bool.and_eq_true, List.all_eq_true, decide_eq_true_eq] at hc
    exact ⟨rfl, hc.1, hc.2, padL_len (by omega)⟩
  · simp at h
theorem idxOf_len (rs : List (List Int)) : (idxOf rs).length = 0 ∨ (idxOf rs).length = 32 := by
  unfold idxOf; split
  · right; exact tabL_len _
  · left; rfl
theorem idxOf_top {rs : List (List Int)} (h : (idxOf rs).length ≠ 0) {i : Nat} {r m : List Int} (hr : rs[i]? = some r) (hm : (idxOf rs)[1]? = some m) : vfitsB r m = true := by
  obtain ⟨e, hv, hl, hp⟩ := idxOf_form h
  rw [e, tabL_at _ (by omega) (by omega)] at hm
  obtain rfl := Option.some.inj hm
  exact room_top hp (padL_vec hv) (padL_at hr)
theorem idxOf_room {rs : List (List Int)} (h : (idxOf rs).length ≠ 0) {i : Nat} (hi : i < 16) : (idxOf rs)[16 + i]? = some (match rs[i]? with | some r => r | none => [0, 0, 0]) := by
  obtain ⟨e, hv, hl, hp⟩ := idxOf_form h
  rw [e, tabL_at _ (by omega) (by omega), nodeN_leaf, List.getD]
  cases hr : rs[i]? with
  | some r => rw [padL_at hr]; rfl
  | none => rw [padL_out (List.getElem?_eq_none_iff.1 hr) hi]; rfl
theorem idxOf_valid {rs : List (List Int)} (h : (idxOf rs).length ≠ 0) : idxB (idxOf rs) = true ∧ (idxOf rs).length = 32 := by
  obtain ⟨e, hv, hl, hp⟩ := idxOf_form h
  rw [e]; exact ⟨idxB_tab hp (padL_vec hv), tabL_len _⟩
theorem idxB_len {t : List (List Int)} (h : t.length ≠ 32) : idxB t = false := by simp [idxB, h]
theorem idxB_head {t : List (List Int)} (h : 0 < t.length) : idxB (t.set 0 [1, 0, 0]) = false := by
  rw [← Bool.not_eq_true]
  intro hc
  obtain ⟨rs, e, _⟩ := idxB_form hc
  have h0 : (t.set 0 [1, 0, 0])[0]? = some [1, 0, 0] := List.getElem?_set_self h
  rw [e, tabL_zero] at h0
  simp at h0
theorem findL_cases (need : List Int) (rooms : List (List Int)) : (findL need rooms = -1 ∧ ∀ (j : Nat) r, rooms[j]? = some r → fitsB need r = false) ∨
    ∃ (i : Nat) (r : List Int), findL need rooms = i ∧ rooms[i]? = some r ∧ fitsB need r = true ∧ ∀ (j : Nat) r', j < i → rooms[j]? = some r' → fitsB need r' = false := by
  unfold findL
  cases h : rooms.findIdx? (fun r => fitsB need r) with
  | none =>
    left
    refine ⟨rfl, fun j r hr => ?_⟩
    rw [List.findIdx?_eq_none_iff] at h
    exact h r (List.mem_of_getElem? hr)
  | some i =>
    right
    rw [List.findIdx?_eq_some_iff_getElem] at h
    obtain ⟨hi, hp, hn⟩ := h
    refine ⟨i, rooms[i], rfl, List.getElem?_eq_getElem hi, hp, fun j r' hj hr => ?_⟩
    have := hn j hj
    rw [List.getElem?_eq_getElem (by omega)] at hr
    obtain rfl := Option.some.inj hr
    simpa using this
theorem firstI_cases (t : List (List Int)) (need : List Int) : (firstI t need = -1 ∧ (idxB t = true → vecB need = true → ∀ (j : Nat) r, t[16 + j]? = some r → vfitsB need r = false)) ∨
    (idxB t = true ∧ vecB need = true ∧ ∃ (i : Nat) (r : List Int), firstI t need = i ∧ i < 16 ∧ t[16 + i]? = some r ∧ vfitsB need r = true ∧ ∀ (j : Nat) r', j < i → t[16 + j]? = some r' → vfitsB need r' = false) := by
  unfold firstI
  by_cases hc : (idxB t && vecB need) = true
  · rw [if_pos hc]
    simp only [Bool.and_eq_true] at hc
    obtain ⟨h1, h2⟩ := hc
    rcases findL_cases need (t.drop 16) with ⟨e, h⟩ | ⟨i, r, e, hr, hf, h⟩
    · left
      refine ⟨e, fun _ _ j r hr => ?_⟩
      have := h j r (by rw [List.getElem?_drop]; exact hr)
      simp [vfitsB, this]
    · right
      rw [List.getElem?_drop] at hr
      obtain ⟨rs, e9, hl, hv, hd⟩ := idxB_form h1
      refine ⟨h1, h2, i, r, e, ?_, hr, ?_, fun j r' hj hr' => ?_⟩
      · have := (List.getElem?_eq_some_iff.1 hr).1
        rw [e9, tabL_len] at this; omega
      · have hvr : vecB r = true := hv r (by rw [← hd]; exact List.mem_of_getElem? (i := i) (by rw [List.getElem?_drop]; exact hr))
        rw [vfits_of h2 hvr]; exact hf
      · have := h j r' hj (by rw [List.getElem?_drop]; exact hr')
        simp [vfitsB, this]
  · rw [if_neg hc]
    left
    exact ⟨rfl, fun h1 h2 => absurd (by simp [h1, h2]) hc⟩
theorem firstI_top {t : List (List Int)} {need : List Int} (h : 0 ≤ firstI t need) {m : List Int} (hm : t[1]? = some m) : vfitsB need m = true := by
  rcases firstI_cases t need with ⟨e, _⟩ | ⟨h1, h2, i, r, e, hi, hr, hf, _⟩
  · omega
  · obtain ⟨rs, rfl, hl, hv, hd⟩ := idxB_form h1
    rw [tabL_at _ (by omega) (by omega)] at hm
    obtain rfl := Option.some.inj hm
    rw [tabL_at _ (by omega) (by omega), nodeN_leaf, List.getD] at hr
    have hri : rs[i]? = some r := by rw [List.getElem?_eq_getElem (by omega)] at hr ⊢; simpa using hr
    have hvr := hv r (List.mem_of_getElem? hri)
    have ht := room_top hl hv hri
    have hv1 := node_vec hl hv 1 (by omega) (by omega)
    rw [vfits_of hvr hv1] at ht
    rw [vfits_of h2 hvr] at hf
    rw [vfits_of h2 hv1]
    exact fit_trans h2 hvr hv1 hf ht
theorem firstI_less {t : List (List Int)} {need x : List Int} (h : 0 ≤ firstI t need) (hx : vecB x = true) (hf : fitsB x need = true) : 0 ≤ firstI t x ∧ firstI t x ≤ firstI t need := by
  rcases firstI_cases t need with ⟨e, _⟩ | ⟨h1, h2, i, r, e, hi, hr, hfi, _⟩
  · omega
  · obtain ⟨rs, e9, hl, hv, hd⟩ := idxB_form h1
    have hvr : vecB r = true := hv r (by rw [← hd]; exact List.mem_of_getElem? (i := i) (by rw [List.getElem?_drop]; exact hr))
    have hxr : vfitsB x r = true := by
      rw [vfits_of hx hvr]
      rw [vfits_of h2 hvr] at hfi
      exact fit_trans hx h2 hvr hf hfi
    rcases firstI_cases t x with ⟨e', h'⟩ | ⟨_, _, i', r', e', hi', hr', hf', h'⟩
    · rw [h' h1 hx i r hr] at hxr; cases hxr
    · rw [e, e']
      refine ⟨by omega, ?_⟩
      rcases Nat.lt_or_ge i i' with h9 | h9
      · rw [h' i r h9 hr] at hxr; cases hxr
      · omega
theorem less_vec {need : List Int} {k : Nat} {u : Int} (h : vecB need = true) (hk : need[k]? = some u) (hu : 0 < u) : vecB (need.set k (u - 1)) = true ∧ fitsB (need.set k (u - 1)) need = true := by
  obtain ⟨a, b, c, rfl, hb⟩ := vec_form h
  match k, hk with
  | 0, hk => simp at hk; subst hk; exact ⟨vec_mk (by omega), fit3.2 (by omega)⟩
  | 1, hk => simp at hk; subst hk; exact ⟨vec_mk (by omega), fit3.2 (by omega)⟩
  | 2, hk => simp at hk; subst hk; exact ⟨vec_mk (by omega), fit3.2 (by omega)⟩
theorem set_vec {rs : List (List Int)} {k : Nat} {room : List Int} (h : ∀ r, r ∈ rs → vecB r = true) (hr : vecB room = true) : ∀ r, r ∈ rs.set k room → vecB r = true := by
  intro r hm
  rcases List.mem_or_eq_of_mem_set hm with h1 | rfl
  · exact h r h1
  · exact hr
theorem putR_cases (t : List (List Int)) (at_ : Int) (room : List Int) : putR t at_ room = ([], false) ∨
    ∃ (k : Nat) (rs : List (List Int)), at_ = k ∧ k < 16 ∧ t = tabL rs ∧ rs.length = 16 ∧ (∀ r, r ∈ rs → vecB r = true) ∧ vecB room = true ∧ putR t at_ room = (tabL (rs.set k room), true) := by
  unfold putR
  by_cases hc : (idxB t && inB at_ 0 15 && vecB room) = true
  · right
    rw [if_pos hc]
    simp only [Bool.and_eq_true] at hc
    have ha := inB_of hc.1.2
    obtain ⟨rs, e, hl, hv, hd⟩ := idxB_form hc.1.1
    refine ⟨at_.toNat, rs, by omega, by omega, e, hl, hv, hc.2, ?_⟩
    rw [hd]
  · left; rw [if_neg hc]
theorem tab_room {rs : List (List Int)} (hl : rs.length = 16) {i : Nat} (hi : i < 16) : (tabL rs)[16 + i]? = rs[i]? := by
  rw [tabL_at _ (by omega) (by omega), nodeN_leaf, List.getD, List.getElem?_eq_getElem (by omega)]; rfl
theorem put_back {rs : List (List Int)} {k : Nat} {room r : List Int} (hl : rs.length = 16) (hk : k < 16) (hv : ∀ r, r ∈ rs → vecB r = true) (hr : vecB room = true) (h : rs[k]? = some r) :
    putR (tabL (rs.set k room)) k r = (tabL rs, true) := by
  have hl2 : (rs.set k room).length = 16 := by simp [hl]
  have h1 := idxB_tab hl2 (set_vec hv hr)
  have h2 : inB (k : Int) 0 15 = true := inB_true (by omega) (by omega)
  rw [putR, h1, h2, hv r (List.mem_of_getElem? h), tabL_drop hl2]
  simp only [Bool.and_self, if_true, Int.toNat_natCast, List.set_set]
  have : rs.set k r = rs := by
    obtain ⟨h3, h4⟩ := List.getElem?_eq_some_iff.1 h
    rw [← h4]; exact List.set_getElem_self h3
  rw [this]
end Go.Proofs.Ytpjipofkpikipaa
