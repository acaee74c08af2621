/- Slices of tasks, read as lists. No condition. -/
import Derived.Test.YtcmampicgdobcaaRw
import Derived.Test.YtcmampicgdobcaaVa
namespace Go.Proofs.Ytcmampicgdobcaa
open Go.RowKit
/-- a task as it lies: its number, the slice of its needs and what that holds -/
structure TaskV where
  id : Int
  a : Option Addr
  c : Nat
  need : List Int
def tcells (t : TaskV) : List Value := [.int .i64 t.id, .slice t.a t.need.length t.c]
def trow (ts : List TaskV) : List Value := ts.flatMap tcells
/-- a task as data -/
def pv (t : TaskV) : Int × List Int := (t.id, t.need)
theorem trow_len (ts : List TaskV) : (trow ts).length = ts.length * 2 := by
  induction ts with
  | nil => rfl
  | cons p r ih => simp only [trow, List.flatMap_cons, List.length_append, List.length_cons] at *; rw [ih]; simp [tcells]; omega
theorem trow_at {ts : List TaskV} {k : Nat} {t : TaskV} (h : ts[k]? = some t) : (trow ts)[k * 2]? = some (.int .i64 t.id) ∧ (trow ts)[k * 2 + 1]? = some (.slice t.a t.need.length t.c) := by
  induction ts generalizing k with
  | nil => simp at h
  | cons q r ih =>
    cases k with
    | zero => simp at h; subst h; exact ⟨rfl, rfl⟩
    | succ k =>
      have := ih (k := k) (by simpa using h)
      have e : trow (q :: r) = .int .i64 q.id :: .slice q.a q.need.length q.c :: trow r := rfl
      rw [e, show (k + 1) * 2 = k * 2 + 1 + 1 by omega]
      simpa using this
theorem trow_one (ts : List TaskV) : ∀ u ∈ trow ts, u.oneCell' = true := by
  intro u hu
  obtain ⟨p, _, hp⟩ := List.mem_flatMap.1 hu
  simp only [tcells, List.mem_cons, List.mem_nil_iff, or_false] at hp
  rcases hp with rfl | rfl <;> rfl
theorem trow_app (s t : List TaskV) : trow (s ++ t) = trow s ++ trow t := by simp [trow]
theorem trow_take (ts : List TaskV) (k : Nat) : trow (ts.take k) = (trow ts).take (k * 2) := by
  induction ts generalizing k with
  | nil => simp [trow]
  | cons q r ih =>
    cases k with
    | zero => simp [trow]
    | succ k =>
      have e : trow (q :: r) = .int .i64 q.id :: .slice q.a q.need.length q.c :: trow r := rfl
      have e2 : trow (q :: r.take k) = .int .i64 q.id :: .slice q.a q.need.length q.c :: trow (r.take k) := rfl
      rw [List.take_succ_cons, e2, e, ih, show (k + 1) * 2 = k * 2 + 1 + 1 by omega, List.take_succ_cons, List.take_succ_cons]
theorem trow_drop (ts : List TaskV) (k : Nat) : trow (ts.drop k) = (trow ts).drop (k * 2) := by
  induction ts generalizing k with
  | nil => simp [trow]
  | cons q r ih =>
    cases k with
    | zero => simp [trow]
    | succ k =>
      have e : trow (q :: r) = .int .i64 q.id :: .slice q.a q.need.length q.c :: trow r := rfl
      rw [List.drop_succ_cons, e, ih, show (k + 1) * 2 = k * 2 + 1 + 1 by omega, List.drop_succ_cons, List.drop_succ_cons]
/-- a slice of tasks -/
def Tasks (w : World) (lo hi : Nat) (A : Option Addr) (c : Nat) (ts : List TaskV) : Prop :=
  Cells w lo hi A c ts.length 2 (trow ts) ∧ ∀ t, t ∈ ts → Ints w lo hi t.a t.c t.need
section
variable {w w' : World} {lo hi lo' hi' l h B c : Nat} {A : Option Addr} {ts : List TaskV}
theorem Tasks.at_ (h : Tasks w lo hi A c ts) {k : Nat} (hk : k < ts.length) :
    ∃ b off t, A = some ⟨b, off, none⟩ ∧ ts[k]? = some t ∧ w.cell? ⟨b, off + k * 2, none⟩ = some (.int .i64 t.id) ∧ w.cell? ⟨b, off + k * 2 + 1, none⟩ = some (.slice t.a t.need.length t.c) ∧ lo ≤ b ∧ b < hi ∧ Ints w lo hi t.a t.c t.need := by
  obtain ⟨b, off, h1, h2, h3, h4⟩ := h.1.form (by omega)
  have hp : ts[k]? = some ts[k] := List.getElem?_eq_getElem hk
  obtain ⟨e1, e2⟩ := trow_at hp
  exact ⟨b, off, _, h1, hp, h4 _ _ e1, by rw [Nat.add_assoc]; exact h4 _ _ e2, h2, h3, h.2 _ (List.getElem_mem hk)⟩
theorem Tasks.below (h : Tasks w lo hi A c ts) (hb : Below B w w') (hB : hi ≤ B) : Tasks w' lo hi A c ts :=
  ⟨h.1.below hb hB, fun t ht => (h.2 t ht).below hb hB⟩
theorem Tasks.mono (h : Tasks w lo hi A c ts) (h1 : lo' ≤ lo) (h2 : hi ≤ hi') : Tasks w lo' hi' A c ts :=
  ⟨h.1.mono h1 h2, fun t ht => (h.2 t ht).mono h1 h2⟩
theorem Tasks.step (h : Tasks w lo w.heap.size A c ts) (hb : Below w.heap.size w w') : Tasks w' lo w'.heap.size A c ts :=
  (h.below hb (Nat.le_refl _)).mono (Nat.le_refl _) hb.size
theorem Tasks.only (k : Tasks w l h A c ts) (a : Only lo hi w w') (hd : h ≤ lo ∨ hi ≤ l) (hs : h ≤ w.heap.size) : Tasks w' l h A c ts :=
  ⟨k.1.only a hd hs, fun t ht => (k.2 t ht).only a hd hs⟩
theorem Tasks.drewN (h : Tasks w lo hi A c ts) (n : Nat) : Tasks (w.drewN n) lo hi A c ts := h
theorem Tasks.len (h : Tasks w lo hi A c ts) : ts.length ≤ c ∧ c ≤ maxLen := ⟨h.1.1, h.1.2.1⟩
theorem Tasks.take (h : Tasks w lo hi A c ts) {k : Nat} (hk : k ≤ ts.length) : Tasks w lo hi A c (ts.take k) := by
  refine ⟨?_, fun t ht => h.2 t (List.mem_of_mem_take ht)⟩
  have := h.1.take hk
  rw [← trow_take] at this
  rwa [List.length_take, Nat.min_eq_left hk]
theorem Tasks.drop (h : Tasks w lo hi A c ts) {k : Nat} (hk : k ≤ ts.length) : Tasks w lo hi (if c = k then A else A.map (·.add (k * 2))) (c - k) (ts.drop k) := by
  refine ⟨?_, fun t ht => h.2 t (List.mem_of_mem_drop ht)⟩
  have := h.1.drop hk
  rw [← trow_drop] at this
  rwa [List.length_drop]
/-- a slice of the call's own that holds tasks -/
theorem Tasks.of_own {base e : Nat} {v : Value} (h : w.ownsRow base e 2 v ts.length (trow ts)) (hn : ∀ t, t ∈ ts → Ints w base w.heap.size t.a t.c t.need) :
    ∃ A c, v = .slice A ts.length c ∧ Tasks w base w.heap.size A c ts := by
  obtain ⟨A, c, he, hC⟩ := Cells.of_own h
  exact ⟨A, c, he, hC, hn⟩
end
/-- a slice of tasks that came in -/
def TasksR (w : World) (hi : Nat) (A : Option Addr) (ts : List TaskV) : Prop :=
  (ts = [] ∨ ∃ b off, A = some ⟨b, off, none⟩ ∧ b < hi ∧ ∀ j t, ts[j]? = some t → w.cell? ⟨b, off + j * 2, none⟩ = some (.int .i64 t.id) ∧ w.cell? ⟨b, off + j * 2 + 1, none⟩ = some (.slice t.a t.need.length t.c)) ∧
  ∀ t, t ∈ ts → IntsR w hi t.a t.need
section
variable {w w' : World} {hi hi' B : Nat} {A : Option Addr} {ts : List TaskV}
theorem TasksR.at_ (h : TasksR w hi A ts) {k : Nat} (hk : k < ts.length) :
    ∃ b off t, A = some ⟨b, off, none⟩ ∧ ts[k]? = some t ∧ w.cell? ⟨b, off + k * 2, none⟩ = some (.int .i64 t.id) ∧ w.cell? ⟨b, off + k * 2 + 1, none⟩ = some (.slice t.a t.need.length t.c) ∧ b < hi ∧ IntsR w hi t.a t.need := by
  rcases h.1 with rfl | ⟨b, off, h1, h2, h3⟩
  · simp at hk
  · have hp : ts[k]? = some ts[k] := List.getElem?_eq_getElem hk
    exact ⟨b, off, _, h1, hp, (h3 _ _ hp).1, (h3 _ _ hp).2, h2, h.2 _ (List.getElem_mem hk)⟩
theorem TasksR.below (h : TasksR w hi A ts) (hb : Below B w w') (hB : hi ≤ B) : TasksR w' hi A ts := by
  refine ⟨?_, fun t ht => (h.2 t ht).below hb hB⟩
  rcases h.1 with h | ⟨b, off, h1, h2, h3⟩
  · exact .inl h
  · exact .inr ⟨b, off, h1, h2, fun j t hj => by rw [hb.cell (show b < B by omega), hb.cell (show b < B by omega)]; exact h3 j t hj⟩
end
/-! ### plain: what TasksValid returns -/
def roomB (room : List Int) : Bool := room.all (fun n => decide (1 ≤ n)) && vecB room
def hasB (ps : List (Int × List Int)) (id : Int) : Bool := ps.any (fun p => p.1 == id)
def taskOk (room : List Int) (ps : List (Int × List Int)) (k : Nat) : Bool :=
  match ps[k]? with
  | none => true
  | some p => inB p.1 1 40 && !(hasB (ps.take k) p.1) && vfitsB p.2 room
def tasksB (room : List Int) (ps : List (Int × List Int)) : Bool := roomB room && (List.range ps.length).all (taskOk room ps) && decide (ps.length ≤ 14)
theorem rangeAll_succ {p : Nat → Bool} {k : Nat} (h : (List.range k).all p = true) (hk : p k = true) : (List.range (k + 1)).all p = true := by
  rw [List.range_succ, List.all_append, h]; simp [hk]
theorem tasksB_false {room : List Int} {ps : List (Int × List Int)} {k : Nat} (hk : k < ps.length) (h : taskOk room ps k = false) : tasksB room ps = false := by
  have : (List.range ps.length).all (taskOk room ps) = false := by
    rw [List.all_eq_false]; exact ⟨k, List.mem_range.2 hk, by simp [h]⟩
  simp [tasksB, this]
theorem taskOk_eq {room : List Int} {ps : List (Int × List Int)} {k : Nat} {p : Int × List Int} (h : ps[k]? = some p) : taskOk room ps k = (inB p.1 1 40 && !(hasB (ps.take k) p.1) && vfitsB p.2 room) := by simp [taskOk, h]
theorem hasB_snoc {ps : List (Int × List Int)} {p : Int × List Int} {id : Int} : hasB (ps ++ [p]) id = (hasB ps id || (p.1 == id)) := by simp [hasB, List.any_append]
theorem hasB_take {ps : List (Int × List Int)} {k : Nat} {p : Int × List Int} (h : ps[k]? = some p) (id : Int) : hasB (ps.take (k + 1)) id = (hasB (ps.take k) id || (p.1 == id)) := by
  rw [take_succ_some h, hasB_snoc]
end Go.Proofs.Ytcmampicgdobcaa
