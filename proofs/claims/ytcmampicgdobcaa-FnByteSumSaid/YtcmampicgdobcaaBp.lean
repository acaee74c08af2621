/- Plain laws on bounds: conflicts, tasks that are apart, the bound by sums; nodes. No program. -/
import Derived.Test.YtcmampicgdobcaaPt
namespace Go.Proofs.Ytcmampicgdobcaa
/-! ### conflicts -/
def clashB (room a b : List Int) : Bool := !(fitsB (addL a b 1) room)
theorem addL_comm {a b : List Int} : addL a b 1 = addL b a 1 := by
  unfold addL
  rw [List.zipWith_comm]
  congr 1
  funext x y
  omega
theorem clashB_comm {room a b : List Int} : clashB room a b = clashB room b a := by rw [clashB, addL_comm, clashB]
def tclashB (room : List Int) (p q : Int × List Int) : Bool := tasksB room [p, q] && clashB room p.2 q.2
theorem tclashB_comm {room : List Int} {p q : Int × List Int} : tclashB room p q = tclashB room q p := by
  have : tasksB room [p, q] = tasksB room [q, p] := by
    rw [Bool.eq_iff_iff, tasksB_iff, tasksB_iff]
    exact ⟨fun h => h.perm (List.Perm.swap ..), fun h => h.perm (List.Perm.swap ..)⟩
  rw [tclashB, tclashB, this, clashB_comm]
/-! ### tasks that are apart -/
def apartF (room : List Int) (tk : List (List Int)) (x : List Int) : List (List Int) := if tk.all (fun y => clashB room x y) then tk ++ [x] else tk
def apartL (room : List Int) (ns : List (List Int)) : List (List Int) := ns.foldl (apartF room) []
theorem apartL_snoc {room : List Int} {l m : List (List Int)} {n : List Int} (h : m = l ++ [n]) : apartL room m = apartF room (apartL room l) n := by
  rw [h, apartL, List.foldl_append]; rfl
theorem apartF_len {room : List Int} {tk : List (List Int)} {x : List Int} : (apartF room tk x).length = tk.length ∨ (apartF room tk x).length = tk.length + 1 := by
  unfold apartF; split
  · right; simp
  · left; rfl
theorem apart_fold_len {room : List Int} (r tk : List (List Int)) : tk.length ≤ (r.foldl (apartF room) tk).length ∧ (r.foldl (apartF room) tk).length ≤ tk.length + r.length := by
  induction r generalizing tk with
  | nil => simp
  | cons x r ih =>
    have h1 := ih (apartF room tk x)
    have h2 := @apartF_len room tk x
    simp only [List.foldl_cons, List.length_cons]
    omega
theorem apartL_len {room : List Int} (ns : List (List Int)) : (apartL room ns).length ≤ ns.length := by
  have := (apart_fold_len (room := room) ns []).2
  simpa [apartL] using this
theorem apart_first {room x0 : List Int} (r : List (List Int)) : 1 ≤ (apartL room (x0 :: r)).length ∧ ((apartL room (x0 :: r)).length = 1 ↔ r.all (fun x => !(clashB room x0 x)) = true) := by
  have e : apartL room (x0 :: r) = r.foldl (apartF room) [x0] := by simp [apartL, apartF]
  rw [e]
  refine ⟨by have := (apart_fold_len (room := room) r [x0]).1; simpa using this, ?_⟩
  clear e
  induction r with
  | nil => simp
  | cons x r ih =>
    rw [List.foldl_cons]
    cases h : clashB room x0 x
    · have : apartF room [x0] x = [x0] := by simp [apartF, clashB_comm (a := x) (b := x0), h]
      rw [this, ih]; simp [h]
    · have : apartF room [x0] x = [x0, x] := by simp [apartF, clashB_comm (a := x) (b := x0), h]
      rw [this]
      have h2 := (apart_fold_len (room := room) r [x0, x]).1
      simp only [List.length_cons, List.length_nil] at h2
      simp only [List.all_cons, h, Bool.not_true, Bool.false_and]
      constructor
      · intro h3; omega
      · intro h3; cases h3
/-! ### the bound by sums -/
def ceilI (n r : Int) : Int := (n + r - 1) / r
def ceilL (load room : List Int) : List Int := List.zipWith ceilI load room
def boundL (load room : List Int) : Int := (ceilL load room).foldl max 0
theorem ceil_some {a b : List Int} {k : Nat} {x y : Int} (hx : a[k]? = some x) (hy : b[k]? = some y) : (ceilL a b)[k]? = some (ceilI x y) := zip_some (f := ceilI) hx hy
theorem max_snoc {l m : List Int} {z : Int} (h : m = l ++ [z]) : m.foldl max 0 = max (l.foldl max 0) z := by rw [h, List.foldl_append]; rfl
theorem boundL_form (a b c x y z : Int) : boundL [a, b, c] [x, y, z] = max (max (max 0 (ceilI a x)) (ceilI b y)) (ceilI c z) := rfl
theorem ceil_le {n r : Int} (hr : 1 ≤ r) : n ≤ ceilI n r * r := by
  unfold ceilI
  have h1 := Int.mul_ediv_add_emod (n + r - 1) r
  have h2 := Int.emod_lt_of_pos (n + r - 1) (by omega : 0 < r)
  rw [Int.mul_comm]
  omega
theorem ceil_gt {n r : Int} (hr : 1 ≤ r) : (ceilI n r - 1) * r < n := by
  unfold ceilI
  have h1 := Int.mul_ediv_add_emod (n + r - 1) r
  have h2 := Int.emod_nonneg (n + r - 1) (by omega : r ≠ 0)
  rw [Int.sub_mul, Int.one_mul, Int.mul_comm]
  omega
theorem ceil_nonneg {n r : Int} (hn : 0 ≤ n) (hr : 1 ≤ r) : 0 ≤ ceilI n r := Int.ediv_nonneg (by omega) (by omega)
theorem ceil_mono {n m r : Int} (h : n ≤ m) (hr : 1 ≤ r) : ceilI n r ≤ ceilI m r := Int.ediv_le_ediv (by omega) (by omega)
theorem ceil_le_of {n r q : Int} (hr : 1 ≤ r) (h : n ≤ q * r) : ceilI n r ≤ q := by
  have h1 := ceil_gt (n := n) hr
  rcases Int.lt_or_le q (ceilI n r) with h2 | h2
  · exfalso
    have : q * r ≤ (ceilI n r - 1) * r := Int.mul_le_mul_of_nonneg_right (by omega) (by omega)
    omega
  · exact h2
theorem ceil_room {n r : Int} (hn : 0 ≤ n) (hr : 1 ≤ r) : ceilI n (r + 1) ≤ ceilI n r := by
  refine ceil_le_of (by omega) ?_
  have h1 := ceil_le (n := n) hr
  have h2 := ceil_nonneg hn hr
  rw [Int.mul_add, Int.mul_one]
  omega
/-- go's division of small numbers -/
theorem ceil_tdiv {n r : Int} (hn : 0 ≤ n) (hr : 1 ≤ r) : (n + r - 1).tdiv r = ceilI n r := Int.tdiv_eq_ediv_of_nonneg (by omega)
theorem ceil_bd {n r : Int} (hn : 0 ≤ n ∧ n ≤ 1000000) (hr : 1 ≤ r) : 0 ≤ ceilI n r ∧ ceilI n r ≤ 1000000 := by
  refine ⟨ceil_nonneg hn.1 hr, ceil_le_of hr ?_⟩
  have : (1000000 : Int) * 1 ≤ 1000000 * r := Int.mul_le_mul_of_nonneg_left hr (by omega)
  omega
theorem bound_ge {a b c x y z : Int} : 0 ≤ boundL [a, b, c] [x, y, z] ∧ ceilI a x ≤ boundL [a, b, c] [x, y, z] ∧ ceilI b y ≤ boundL [a, b, c] [x, y, z] ∧ ceilI c z ≤ boundL [a, b, c] [x, y, z] := by
  rw [boundL_form]; omega
theorem bound_mem {a b c x y z : Int} : boundL [a, b, c] [x, y, z] = 0 ∨ boundL [a, b, c] [x, y, z] = ceilI a x ∨ boundL [a, b, c] [x, y, z] = ceilI b y ∨ boundL [a, b, c] [x, y, z] = ceilI c z := by
  rw [boundL_form]; omega
theorem bound_le {a b c x y z q : Int} (h0 : 0 ≤ q) (h1 : ceilI a x ≤ q) (h2 : ceilI b y ≤ q) (h3 : ceilI c z ≤ q) : boundL [a, b, c] [x, y, z] ≤ q := by
  rw [boundL_form]; omega
/-- enough, and no less would be -/
theorem bound_room {a b c x y z : Int} (hx : 1 ≤ x) (hy : 1 ≤ y) (hz : 1 ≤ z) :
    a ≤ boundL [a, b, c] [x, y, z] * x ∧ b ≤ boundL [a, b, c] [x, y, z] * y ∧ c ≤ boundL [a, b, c] [x, y, z] * z := by
  obtain ⟨h0, h1, h2, h3⟩ := @bound_ge a b c x y z
  have k1 : ceilI a x * x ≤ boundL [a, b, c] [x, y, z] * x := Int.mul_le_mul_of_nonneg_right h1 (by omega)
  have k2 : ceilI b y * y ≤ boundL [a, b, c] [x, y, z] * y := Int.mul_le_mul_of_nonneg_right h2 (by omega)
  have k3 : ceilI c z * z ≤ boundL [a, b, c] [x, y, z] * z := Int.mul_le_mul_of_nonneg_right h3 (by omega)
  exact ⟨Int.le_trans (ceil_le hx) k1, Int.le_trans (ceil_le hy) k2, Int.le_trans (ceil_le hz) k3⟩
theorem bound_tight {a b c x y z : Int} (hx : 1 ≤ x) (hy : 1 ≤ y) (hz : 1 ≤ z) :
    boundL [a, b, c] [x, y, z] = 0 ∨ (boundL [a, b, c] [x, y, z] - 1) * x < a ∨ (boundL [a, b, c] [x, y, z] - 1) * y < b ∨ (boundL [a, b, c] [x, y, z] - 1) * z < c := by
  rcases @bound_mem a b c x y z with h | h | h | h
  · exact .inl h
  · exact .inr (.inl (by rw [h]; exact ceil_gt hx))
  · exact .inr (.inr (.inl (by rw [h]; exact ceil_gt hy)))
  · exact .inr (.inr (.inr (by rw [h]; exact ceil_gt hz)))
theorem fits_form' {a b c x y z : Int} : fitsB [a, b, c] [x, y, z] = true ↔ a ≤ x ∧ b ≤ y ∧ c ≤ z := by simp [fitsB]
/-- what fits alone: the load is at most as many rooms as there are needs -/
theorem load_le {room : List Int} {j : Nat} {r : Int} {ns : List (List Int)} (hr : room[j]? = some r) (h : ∀ n, n ∈ ns → vfitsB n room = true) : loadC j ns ≤ (ns.length : Int) * r := by
  induction ns with
  | nil => simp [loadC]
  | cons n rest ih =>
    have h1 := ih (fun m hm => h m (List.mem_cons_of_mem _ hm))
    have h2 := h n (List.mem_cons_self ..)
    have hv := fits_vec h2
    have h3 : n.getD j 0 ≤ r := by
      obtain ⟨a, b, c, rfl, _⟩ := vec_form hv.1
      obtain ⟨x, y, z, rfl, _⟩ := vec_form hv.2
      simp only [vfitsB, Bool.and_eq_true] at h2
      have hf := fits_form'.1 h2.2
      match j, hr with
      | 0, hr => simp at hr ⊢; omega
      | 1, hr => simp at hr ⊢; omega
      | 2, hr => simp at hr ⊢; omega
    have e : loadC j (n :: rest) = n.getD j 0 + loadC j rest := by simp [loadC]
    rw [e, List.length_cons, Int.natCast_add, Int.add_mul]
    simp only [Int.natCast_one, Int.one_mul] at *
    omega
theorem tasks_load {room : List Int} {ps : List (Int × List Int)} (h : tasksB room ps = true) : ∃ x y z, room = [x, y, z] ∧ (1 ≤ x ∧ x ≤ 20) ∧ (1 ≤ y ∧ y ≤ 20) ∧ (1 ≤ z ∧ z ≤ 20) ∧
    (∀ j, 0 ≤ loadC j (ps.map Prod.snd) ∧ loadC j (ps.map Prod.snd) ≤ 280) := by
  have hr := room_vec (tasks_room h)
  obtain ⟨x, y, z, rfl, hb⟩ := vec_form hr.1
  have h1 := hr.2 x (by simp)
  have h2 := hr.2 y (by simp)
  have h3 := hr.2 z (by simp)
  refine ⟨x, y, z, rfl, by omega, by omega, by omega, fun j => ?_⟩
  have hl := (tasksB_iff.1 h).2.2.2
  have := loadC_bd (j := j) (ns := ps.map Prod.snd) (M := 20) (by omega) (fun n hn u hu => by
    obtain ⟨p, hp, rfl⟩ := List.mem_map.1 hn
    obtain ⟨k, hk⟩ := List.getElem?_of_mem hu
    exact vec_at (tasks_vec h hp) hk)
  rw [List.length_map] at this
  omega
def boundS (room : List Int) (ps : List (Int × List Int)) : Int := if tasksB room ps then boundL (loadL (ps.map Prod.snd)) room else -1
def apartI (room : List Int) (ps : List (Int × List Int)) : Int := if tasksB room ps then ((apartL room (ps.map Prod.snd)).length : Int) else -1
theorem boundS_bd {room : List Int} {ps : List (Int × List Int)} (h : tasksB room ps = true) : 0 ≤ boundS room ps ∧ boundS room ps ≤ ps.length := by
  obtain ⟨x, y, z, rfl, hx, hy, hz, hl⟩ := tasks_load h
  rw [boundS, if_pos h]
  refine ⟨bound_ge.1, ?_⟩
  have hf : ∀ n, n ∈ ps.map Prod.snd → vfitsB n [x, y, z] = true := by
    intro n hn
    obtain ⟨p, hp, rfl⟩ := List.mem_map.1 hn
    exact tasks_fit h hp
  have k0 := load_le (j := 0) (r := x) rfl hf
  have k1 := load_le (j := 1) (r := y) rfl hf
  have k2 := load_le (j := 2) (r := z) rfl hf
  rw [List.length_map] at k0 k1 k2
  exact bound_le (by omega) (ceil_le_of hx.1 k0) (ceil_le_of hy.1 k1) (ceil_le_of hz.1 k2)
theorem boundS_take {room : List Int} {ps : List (Int × List Int)} (h : tasksB room ps = true) (k : Nat) : 0 ≤ boundS room (ps.take k) ∧ boundS room (ps.take k) ≤ boundS room ps := by
  have hk := tasks_take h k
  refine ⟨(boundS_bd hk).1, ?_⟩
  obtain ⟨x, y, z, rfl, hx, hy, hz, hl⟩ := tasks_load h
  rw [boundS, if_pos hk, boundS, if_pos h, List.map_take]
  have hn : ∀ n, n ∈ ps.map Prod.snd → ∀ u, u ∈ n → 0 ≤ u := by
    intro n hn u hu
    obtain ⟨p, hp, rfl⟩ := List.mem_map.1 hn
    obtain ⟨i, hi⟩ := List.getElem?_of_mem hu
    exact (vec_at (tasks_vec h hp) hi).1
  have g0 := (loadC_take (j := 0) hn k).2
  have g1 := (loadC_take (j := 1) hn k).2
  have g2 := (loadC_take (j := 2) hn k).2
  obtain ⟨b0, b1, b2, b3⟩ := @bound_ge (loadC 0 (ps.map Prod.snd)) (loadC 1 (ps.map Prod.snd)) (loadC 2 (ps.map Prod.snd)) x y z
  exact bound_le b0 (Int.le_trans (ceil_mono g0 hx.1) b1) (Int.le_trans (ceil_mono g1 hy.1) b2) (Int.le_trans (ceil_mono g2 hz.1) b3)
/-- a greater room -/
theorem room_more {room : List Int} {ps : List (Int × List Int)} {k : Nat} {u : Int} (h : tasksB room ps = true) (hk : room[k]? = some u) (hu : u ≠ 20) :
    tasksB (room.set k (u + 1)) ps = true ∧ 0 ≤ boundS (room.set k (u + 1)) ps ∧ boundS (room.set k (u + 1)) ps ≤ boundS room ps := by
  have hl := tasks_load h
  obtain ⟨x, y, z, rfl, hx, hy, hz, hl⟩ := hl
  have key : ∃ x' y' z', [x, y, z].set k (u + 1) = [x', y', z'] ∧ (x' = x ∨ x' = x + 1) ∧ (y' = y ∨ y' = y + 1) ∧ (z' = z ∨ z' = z + 1) ∧ x' ≤ 20 ∧ y' ≤ 20 ∧ z' ≤ 20 := by
    match k, hk with
    | 0, hk => simp at hk; subst hk; exact ⟨_, _, _, rfl, by omega⟩
    | 1, hk => simp at hk; subst hk; exact ⟨_, _, _, rfl, by omega⟩
    | 2, hk => simp at hk; subst hk; exact ⟨_, _, _, rfl, by omega⟩
  obtain ⟨x', y', z', e, ex, ey, ez, bx, by_, bz⟩ := key
  rw [e]
  have ht : tasksB [x', y', z'] ps = true := by
    obtain ⟨g1, g2, g3, g4⟩ := tasksB_iff.1 h
    refine tasksB_iff.2 ⟨?_, fun p hp => ⟨(g2 p hp).1, ?_⟩, g3, g4⟩
    · simp only [roomB, Bool.and_eq_true]
      refine ⟨by simp; omega, vec_mk (by omega)⟩
    · have := (g2 p hp).2
      have hv := (fits_vec this).1
      obtain ⟨a, b, c, e2, hb⟩ := vec_form hv
      rw [e2] at this hv ⊢
      simp only [vfitsB, Bool.and_eq_true] at this ⊢
      have hf := fits_form'.1 this.2
      exact ⟨⟨hv, vec_mk (by omega)⟩, fits_form'.2 (by omega)⟩
  refine ⟨ht, (boundS_bd ht).1, ?_⟩
  rw [boundS, if_pos ht, boundS, if_pos h]
  obtain ⟨b0, b1, b2, b3⟩ := @bound_ge (loadC 0 (ps.map Prod.snd)) (loadC 1 (ps.map Prod.snd)) (loadC 2 (ps.map Prod.snd)) x y z
  refine bound_le b0 (Int.le_trans ?_ b1) (Int.le_trans ?_ b2) (Int.le_trans ?_ b3)
  · rcases ex with rfl | rfl
    · exact Int.le_refl _
    · exact ceil_room (hl 0).1 hx.1
  · rcases ey with rfl | rfl
    · exact Int.le_refl _
    · exact ceil_room (hl 1).1 hy.1
  · rcases ez with rfl | rfl
    · exact Int.le_refl _
    · exact ceil_room (hl 2).1 hz.1
theorem apartI_bd {room : List Int} {ps : List (Int × List Int)} : -1 ≤ apartI room ps ∧ apartI room ps ≤ ps.length := by
  unfold apartI
  split
  · have := apartL_len (room := room) (ps.map Prod.snd)
    rw [List.length_map] at this
    omega
  · omega
/-! ### nodes -/
def binsB (room : List Int) (bins : List (List (Int × List Int))) : Bool :=
  decide (bins.length ≤ 14) && tasksB room bins.flatten && bins.all (fun b => fitsB (loadL (b.map Prod.snd)) room)
theorem load_two {p q : Int × List Int} (hp : p.2.length = 3) (hq : q.2.length = 3) : loadL ([p, q].map Prod.snd) = addL p.2 q.2 1 := by
  obtain ⟨i, a⟩ := p
  obtain ⟨j, b⟩ := q
  match a, hp with
  | [x, y, z], _ => match b, hq with
    | [x', y', z'], _ => simp [loadL, loadC, addL]
theorem bins_two {room : List Int} {p q : Int × List Int} (hp : p.2.length = 3) (hq : q.2.length = 3) : binsB room [[p, q]] = (tasksB room [p, q] && !(clashB room p.2 q.2)) := by
  rw [binsB, clashB, List.all_cons, load_two hp hq]; simp
theorem sub_flatten {α : Type} {l m : List (List α)} (h : List.Sublist l m) : List.Sublist l.flatten m.flatten := by
  induction h with
  | slnil => exact List.Sublist.refl _
  | cons a _ ih => rw [List.flatten_cons]; exact ih.trans (List.sublist_append_right _ _)
  | cons_cons a _ ih => rw [List.flatten_cons, List.flatten_cons]; exact List.Sublist.append (List.Sublist.refl _) ih
theorem bins_out {room : List Int} {bins : List (List (Int × List Int))} (h : binsB room bins = true) (k : Nat) : binsB room (bins.take k ++ bins.drop (k + 1)) = true := by
  simp only [binsB, Bool.and_eq_true, decide_eq_true_eq, List.all_eq_true] at h ⊢
  have hs := part_out (l := bins) (k := k)
  refine ⟨⟨Nat.le_trans hs.length_le h.1.1, ?_⟩, fun b hb => h.2 b (hs.subset hb)⟩
  exact tasksB_iff.2 ((tasksB_iff.1 h.1.2).sub (sub_flatten hs))
theorem bins_twice {room : List Int} {bins : List (List (Int × List Int))} {k : Nat} {b : List (Int × List Int)} (hk : bins[k]? = some b) (hb : b ≠ []) : binsB room (bins.take (k + 1) ++ bins.drop k) = false := by
  rw [← Bool.not_eq_true]
  intro h
  simp only [binsB, Bool.and_eq_true] at h
  have h3 := (tasksB_iff.1 h.1.2).2.2.1
  rw [List.flatten_append, List.map_append, List.nodup_append] at h3
  obtain ⟨p, r, rfl⟩ := List.exists_cons_of_ne_nil hb
  have hl := (List.getElem?_eq_some_iff.1 hk)
  refine h3.2.2 p.1 ?_ p.1 ?_ rfl
  · refine List.mem_map.2 ⟨p, ?_, rfl⟩
    rw [take_succ_some hk]
    exact List.mem_flatten.2 ⟨p :: r, by simp, by simp⟩
  · refine List.mem_map.2 ⟨p, ?_, rfl⟩
    obtain ⟨hl1, hl2⟩ := hl
    rw [List.drop_eq_getElem_cons hl1, hl2]
    exact List.mem_flatten.2 ⟨p :: r, by simp, by simp⟩
end Go.Proofs.Ytcmampicgdobcaa
