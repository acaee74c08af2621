/- Plain laws on lists of tasks: what TasksValid says, parts of it, loads. No program. -/
import Derived.Test.YtcmampicgdobcaaTv
namespace Go.Proofs.Ytcmampicgdobcaa
theorem hasB_false_iff {ps : List (Int × List Int)} {id : Int} : hasB ps id = false ↔ ∀ p, p ∈ ps → p.1 ≠ id := by
  unfold hasB
  rw [List.any_eq_false]
  constructor
  · intro h p hp he
    exact h p hp (by simp [he])
  · intro h p hp he
    exact h p hp (by simpa using he)
def TasksOk (room : List Int) (ps : List (Int × List Int)) : Prop :=
  roomB room = true ∧ (∀ p, p ∈ ps → inB p.1 1 40 = true ∧ vfitsB p.2 room = true) ∧ (ps.map Prod.fst).Nodup ∧ ps.length ≤ 14
theorem tasksB_iff {room : List Int} {ps : List (Int × List Int)} : tasksB room ps = true ↔ TasksOk room ps := by
  unfold tasksB TasksOk
  simp only [Bool.and_eq_true, decide_eq_true_eq, List.all_eq_true, List.mem_range]
  constructor
  · rintro ⟨⟨h1, h2⟩, h3⟩
    have key : ∀ k p, ps[k]? = some p → inB p.1 1 40 = true ∧ hasB (ps.take k) p.1 = false ∧ vfitsB p.2 room = true := by
      intro k p hk
      have := h2 k (List.getElem?_eq_some_iff.1 hk).1
      rw [taskOk_eq hk] at this
      simp only [Bool.and_eq_true, Bool.not_eq_true'] at this
      exact ⟨this.1.1, this.1.2, this.2⟩
    refine ⟨h1, fun p hp => ?_, ?_, h3⟩
    · obtain ⟨k, hk⟩ := List.getElem?_of_mem hp
      exact ⟨(key k p hk).1, (key k p hk).2.2⟩
    · rw [List.Nodup, List.pairwise_iff_getElem]
      intro i j hi hj hij he
      simp only [List.length_map] at hi hj
      simp only [List.getElem_map] at he
      have := (key j _ (List.getElem?_eq_getElem hj)).2.1
      rw [hasB_false_iff] at this
      refine this ps[i] ?_ he
      rw [List.mem_take_iff_getElem]
      exact ⟨i, by omega, rfl⟩
  · rintro ⟨h1, h2, h3, h4⟩
    refine ⟨⟨h1, fun k hk => ?_⟩, h4⟩
    have hp := List.getElem?_eq_getElem hk
    rw [taskOk_eq hp]
    have hm := h2 _ (List.getElem_mem hk)
    have : hasB (ps.take k) ps[k].1 = false := by
      rw [hasB_false_iff]
      intro q hq he
      rw [List.mem_take_iff_getElem] at hq
      obtain ⟨i, hi, rfl⟩ := hq
      rw [List.Nodup, List.pairwise_iff_getElem] at h3
      exact h3 i k (by simp; omega) (by simpa using hk) (by omega) (by simpa using he)
    simp [hm.1, hm.2, this]
theorem TasksOk.sub {room : List Int} {ps qs : List (Int × List Int)} (h : TasksOk room ps) (hs : List.Sublist qs ps) : TasksOk room qs :=
  ⟨h.1, fun p hp => h.2.1 p (hs.subset hp), h.2.2.1.sublist (hs.map _), Nat.le_trans hs.length_le h.2.2.2⟩
theorem TasksOk.perm {room : List Int} {ps qs : List (Int × List Int)} (h : TasksOk room ps) (hs : List.Perm qs ps) : TasksOk room qs :=
  ⟨h.1, fun p hp => h.2.1 p (hs.subset hp), (hs.map _).nodup_iff.2 h.2.2.1, by rw [hs.length_eq]; exact h.2.2.2⟩
theorem TasksOk.nil {room : List Int} (h : roomB room = true) : TasksOk room [] := ⟨h, by simp, by simp, by simp⟩
/-- one task left out -/
theorem part_out {α : Type} {l : List α} {k : Nat} : List.Sublist (l.take k ++ l.drop (k + 1)) l := by
  have h : l = l.take k ++ l.drop k := (List.take_append_drop k l).symm
  conv => rhs; rw [h]
  refine List.Sublist.append (List.Sublist.refl _) ?_
  rw [← List.drop_drop]
  exact List.drop_sublist _ _
theorem tasks_out {room : List Int} {ps : List (Int × List Int)} (h : tasksB room ps = true) (k : Nat) : tasksB room (ps.take k ++ ps.drop (k + 1)) = true :=
  tasksB_iff.2 ((tasksB_iff.1 h).sub part_out)
theorem tasks_take {room : List Int} {ps : List (Int × List Int)} (h : tasksB room ps = true) (k : Nat) : tasksB room (ps.take k) = true :=
  tasksB_iff.2 ((tasksB_iff.1 h).sub (List.take_sublist _ _))
theorem tasks_one {room : List Int} {ps : List (Int × List Int)} (h : tasksB room ps = true) {p : Int × List Int} (hp : p ∈ ps) : tasksB room [p] = true :=
  tasksB_iff.2 ((tasksB_iff.1 h).sub (List.singleton_sublist.2 hp))
theorem tasks_fit {room : List Int} {ps : List (Int × List Int)} (h : tasksB room ps = true) {p : Int × List Int} (hp : p ∈ ps) : vfitsB p.2 room = true :=
  ((tasksB_iff.1 h).2.1 p hp).2
theorem tasks_room {room : List Int} {ps : List (Int × List Int)} (h : tasksB room ps = true) : roomB room = true := (tasksB_iff.1 h).1
theorem room_vec {room : List Int} (h : roomB room = true) : vecB room = true ∧ ∀ z, z ∈ room → 1 ≤ z := by
  simp only [roomB, Bool.and_eq_true, List.all_eq_true, decide_eq_true_eq] at h
  exact ⟨h.2, h.1⟩
theorem fits_vec {a b : List Int} (h : vfitsB a b = true) : vecB a = true ∧ vecB b = true := by
  simp only [vfitsB, Bool.and_eq_true] at h
  exact h.1
theorem tasks_vec {room : List Int} {ps : List (Int × List Int)} (h : tasksB room ps = true) {p : Int × List Int} (hp : p ∈ ps) : vecB p.2 = true :=
  (fits_vec (tasks_fit h hp)).1
/-- one task twice -/
theorem tasks_twice {room : List Int} {ps : List (Int × List Int)} {k : Nat} (hk : k < ps.length) : tasksB room (ps.take (k + 1) ++ ps.drop k) = false := by
  rw [← Bool.not_eq_true]
  intro h
  have h3 := (tasksB_iff.1 h).2.2.1
  rw [List.map_append, List.nodup_append] at h3
  have hp := List.getElem?_eq_getElem hk
  refine h3.2.2 ps[k].1 ?_ ps[k].1 ?_ rfl
  · exact List.mem_map.2 ⟨ps[k], by rw [take_succ_some hp]; exact List.mem_append_right _ (List.mem_singleton.2 rfl), rfl⟩
  · exact List.mem_map.2 ⟨ps[k], by rw [List.drop_eq_getElem_cons hk]; exact List.mem_cons_self .., rfl⟩
/-! ### loads -/
/-- the sum of the needs in one dimension -/
def loadC (j : Nat) (ns : List (List Int)) : Int := (ns.map fun n => n.getD j 0).sum
def loadL (ns : List (List Int)) : List Int := [loadC 0 ns, loadC 1 ns, loadC 2 ns]
theorem loadC_snoc {j : Nat} {l m : List (List Int)} {n : List Int} (h : m = l ++ [n]) : loadC j m = loadC j l + n.getD j 0 := by
  rw [h]; simp [loadC, List.sum_append]
theorem loadL_nil : loadL [] = [0, 0, 0] := rfl
theorem loadL_len (ns : List (List Int)) : (loadL ns).length = 3 := rfl
theorem loadL_add {l m : List (List Int)} {n : List Int} (h : m = l ++ [n]) (hn : n.length = 3) : addL (loadL l) n 1 = loadL m := by
  match n, hn with
  | [x, y, z], _ => simp [loadL, loadC_snoc h, addL]
theorem loadC_bd {j : Nat} {ns : List (List Int)} {M : Int} (hM : 0 ≤ M) (h : ∀ n, n ∈ ns → ∀ z, z ∈ n → 0 ≤ z ∧ z ≤ M) : 0 ≤ loadC j ns ∧ loadC j ns ≤ M * ns.length := by
  induction ns with
  | nil => simp [loadC]
  | cons n r ih =>
    have h1 : 0 ≤ n.getD j 0 ∧ n.getD j 0 ≤ M := by
      rw [List.getD]
      cases hj : n[j]? with
      | none => simpa using hM
      | some z => exact h n (List.mem_cons_self ..) z (List.mem_of_getElem? hj)
    have h2 := ih (fun m hm => h m (List.mem_cons_of_mem _ hm))
    have e : loadC j (n :: r) = n.getD j 0 + loadC j r := by simp [loadC]
    rw [e, List.length_cons, show M * ((r.length + 1 : Nat) : Int) = M * r.length + M by rw [Int.natCast_add, Int.mul_add]; simp]
    omega
theorem sum_perm {l m : List Int} (h : List.Perm l m) : l.sum = m.sum := by
  induction h with
  | nil => rfl
  | cons x _ ih => simp [ih]
  | swap x y l => simp only [List.sum_cons]; omega
  | trans _ _ h1 h2 => exact h1.trans h2
theorem loadL_perm {l m : List (List Int)} (h : List.Perm l m) : loadL l = loadL m := by
  have : ∀ j, loadC j l = loadC j m := fun j => sum_perm (h.map _)
  simp [loadL, this]
theorem loadC_out {j k : Nat} {ns : List (List Int)} {n : List Int} (h : ns[k]? = some n) : loadC j ns = loadC j (ns.take k ++ ns.drop (k + 1)) + n.getD j 0 := by
  have hk : k < ns.length := (List.getElem?_eq_some_iff.1 h).1
  have e : ns = ns.take k ++ n :: ns.drop (k + 1) := by
    conv => lhs; rw [← List.take_append_drop k ns]
    rw [List.drop_eq_getElem_cons hk, (List.getElem?_eq_some_iff.1 h).2]
  conv => lhs; rw [e]
  simp only [loadC, List.map_append, List.map_cons, List.sum_append, List.sum_cons]
  omega
theorem loadC_take {j : Nat} {ns : List (List Int)} (h : ∀ n, n ∈ ns → ∀ z, z ∈ n → 0 ≤ z) (k : Nat) : 0 ≤ loadC j (ns.take k) ∧ loadC j (ns.take k) ≤ loadC j ns := by
  have nn : ∀ l : List (List Int), (∀ n, n ∈ l → ∀ z, z ∈ n → 0 ≤ z) → 0 ≤ loadC j l := by
    intro l hl
    induction l with
    | nil => simp [loadC]
    | cons n r ih =>
      have h1 : 0 ≤ n.getD j 0 := by
        rw [List.getD]
        cases hj : n[j]? with
        | none => simp
        | some z => exact hl n (List.mem_cons_self ..) z (List.mem_of_getElem? hj)
      have h2 := ih (fun m hm => hl m (List.mem_cons_of_mem _ hm))
      simp only [loadC, List.map_cons, List.sum_cons] at *
      omega
  have e : loadC j ns = loadC j (ns.take k) + loadC j (ns.drop k) := by
    conv => lhs; rw [← List.take_append_drop k ns]
    simp only [loadC, List.map_append, List.sum_append]
  have h1 := nn (ns.take k) (fun n hn => h n (List.mem_of_mem_take hn))
  have h2 := nn (ns.drop k) (fun n hn => h n (List.mem_of_mem_drop hn))
  omega
/-- what BinLoad returns -/
def binLoad (room : List Int) (ps : List (Int × List Int)) : List Int := if tasksB room ps then loadL (ps.map Prod.snd) else []
end Go.Proofs.Ytcmampicgdobcaa
