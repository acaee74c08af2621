/- Tasks as the generators lay them: each need in a block of three ints of its own. No condition. -/
import Derived.Test.YtcmampicgdobcaaTy
import Derived.Test.YtcmampicgdobcaaTv
namespace Go.Proofs.Ytcmampicgdobcaa
open Go.RowKit
theorem Blk.grown {w w' : World} {g : Nat} {t : TypeId} {cs : List Value} {row : Option Nat} (h : Blk w g t cs) (hg : w.grownBy w' row) (hne : row ≠ some g) : Blk w' g t cs :=
  (hg.block g h.lt (fun e => hne (by rw [← e]))).trans h
theorem own_ne {w : World} {base e size n g : Nat} {t : TypeId} {v : Value} {xs cs : List Value} (h : w.ownsRow base e size v n xs) (hb : Blk w g t cs) (hne : e ≠ t) : v.ownBlock ≠ some g := by
  rcases h.2 with ⟨rfl, _⟩ | ⟨g', cap, cur, rfl, _, hg, _⟩
  · simp [Value.ownBlock]
  · intro he
    simp only [Value.ownBlock, Option.some.injEq] at he
    subst he
    rw [Blk] at hb
    rw [hb] at hg
    simp only [Option.some.injEq, Obj.cells.injEq] at hg
    exact hne hg.2.1.symm
theorem own_far {w : World} {base e size n : Nat} {v : Value} {xs : List Value} (h : w.ownsRow base e size v n xs) {p : Addr} (hp : v.ownBlock ≠ some p.block) (u : Value) : (w.setCell p u).ownsRow base e size v n xs := by
  refine ⟨h.1, ?_⟩
  rcases h.2 with h | ⟨g, cap, cur, rfl, h2, h3, h4⟩
  · exact .inl h
  · exact .inr ⟨g, cap, cur, rfl, h2, by rw [Below.heap_setCell _ _ _ _ (fun e => hp (by simp [Value.ownBlock, e]))]; exact h3, h4⟩
/-- a drawn task: w holds its need's block, at lo or above -/
def DTk (ti : TypeId) (w : World) (lo : Nat) (t : TaskV) : Prop :=
  ∃ b, ∃ x y z : Int, t.a = some ⟨b, 0, none⟩ ∧ t.c = 3 ∧ t.need = [x, y, z] ∧ lo ≤ b ∧ Blk w b ti [.int .i64 x, .int .i64 y, .int .i64 z] ∧
    (0 ≤ x ∧ x ≤ 100) ∧ (0 ≤ y ∧ y ≤ 100) ∧ (0 ≤ z ∧ z ≤ 100) ∧ (0 ≤ t.id ∧ t.id ≤ 100)
section
variable {ti : TypeId} {w w' : World} {lo lo' g B : Nat} {t : TaskV}
theorem DTk.only (h : DTk ti w lo t) (a : Only g (g + 1) w w') (hg : g < lo) : DTk ti w' lo t := by
  obtain ⟨b, x, y, z, h1, h2, h3, h4, h5, h6⟩ := h
  exact ⟨b, x, y, z, h1, h2, h3, h4, h5.only a (.inr (by omega)), h6⟩
theorem DTk.step (h : DTk ti w lo t) (a : Below w.heap.size w w') : DTk ti w' lo t := by
  obtain ⟨b, x, y, z, h1, h2, h3, h4, h5, h6⟩ := h
  exact ⟨b, x, y, z, h1, h2, h3, h4, h5.step a, h6⟩
theorem DTk.lower (h : DTk ti w lo t) (hl : lo' ≤ lo) : DTk ti w lo' t := by
  obtain ⟨b, x, y, z, h1, h2, h3, h4, h5, h6⟩ := h
  exact ⟨b, x, y, z, h1, h2, h3, by omega, h5, h6⟩
theorem DTk.grown {base e size n : Nat} {v : Value} {xs : List Value} (h : DTk ti w lo t) (hg : w.grownBy w' v.ownBlock) (ho : w.ownsRow base e size v n xs) (hne : e ≠ ti) : DTk ti w' lo t := by
  obtain ⟨b, x, y, z, h1, h2, h3, h4, h5, h6⟩ := h
  exact ⟨b, x, y, z, h1, h2, h3, h4, h5.grown hg (own_ne ho h5 hne), h6⟩
theorem DTk.len (h : DTk ti w lo t) : t.need.length = 3 := by obtain ⟨b, x, y, z, h1, h2, h3, _⟩ := h; rw [h3]; rfl
theorem DTk.ints (h : DTk ti w lo t) : Ints w lo w.heap.size t.a t.c t.need := by
  obtain ⟨b, x, y, z, h1, h2, h3, h4, h5, h6⟩ := h
  have := Ints.of_blk (zs := [x, y, z]) h5 (by simp [maxLen])
  rw [h1, h2, h3]
  exact this.mono h4 h5.lt
theorem DTk.bd (h : DTk ti w lo t) : (∀ z, z ∈ t.need → 0 ≤ z ∧ z ≤ 100) ∧ (0 ≤ t.id ∧ t.id ≤ 100) := by
  obtain ⟨b, x, y, z, h1, h2, h3, h4, h5, hx, hy, hz, hi⟩ := h
  refine ⟨fun u hu => ?_, hi⟩
  rw [h3] at hu; simp at hu
  rcases hu with rfl | rfl | rfl
  · exact hx
  · exact hy
  · exact hz
/-- the cells of a task of three needs -/
theorem DTk.cells (h : DTk ti w lo t) : ∃ b, t.a = some ⟨b, 0, none⟩ ∧ t.c = 3 ∧ tcells t = [.int .i64 t.id, .slice (some ⟨b, 0, none⟩) 3 3] := by
  obtain ⟨b, x, y, z, h1, h2, h3, _⟩ := h
  exact ⟨b, h1, h2, by simp [tcells, h1, h2, h3]⟩
/-- a store of an int into a need's block leaves a drawn task a drawn task of the same cells -/
theorem DTk.poke (h : DTk ti w lo t) (b i : Nat) (u : Int) (hi : i < 3) (hu : 0 ≤ u ∧ u ≤ 100) : ∃ t', tcells t' = tcells t ∧ DTk ti (w.setCell ⟨b, i, none⟩ (.int .i64 u)) lo t' := by
  obtain ⟨b', x, y, z, h1, h2, h3, h4, h5, hx, hy, hz, hid⟩ := h
  by_cases e : b' = b
  · subst e
    obtain ⟨x', y', z', hset, hx', hy', hz'⟩ := lit3_set x y z u hi hx hy hz hu
    refine ⟨⟨t.id, t.a, t.c, [x', y', z']⟩, by simp [tcells, h3], b', x', y', z', h1, h2, rfl, h4, ?_, hx', hy', hz', hid⟩
    rw [← hset]; exact h5.set_ i (.int .i64 u)
  · exact ⟨t, rfl, b', x, y, z, h1, h2, h3, h4, h5.far e _, hx, hy, hz, hid⟩
theorem DTk.pokes {ts : List TaskV} (h : ∀ t, t ∈ ts → DTk ti w lo t) (b i : Nat) (u : Int) (hi : i < 3) (hu : 0 ≤ u ∧ u ≤ 100) :
    ∃ ts' : List TaskV, ts'.length = ts.length ∧ trow ts' = trow ts ∧ ∀ t, t ∈ ts' → DTk ti (w.setCell ⟨b, i, none⟩ (.int .i64 u)) lo t := by
  induction ts with
  | nil => exact ⟨[], rfl, rfl, by simp⟩
  | cons q r ih =>
    obtain ⟨r', hl, hr, hd⟩ := ih (fun t ht => h t (List.mem_cons_of_mem _ ht))
    obtain ⟨q', hq, hqd⟩ := (h q (List.mem_cons_self ..)).poke b i u hi hu
    refine ⟨q' :: r', by simp [hl], ?_, ?_⟩
    · simp only [trow, List.flatMap_cons] at hr ⊢; rw [hq, hr]
    · intro t ht
      rcases List.mem_cons.1 ht with rfl | ht
      · exact hqd
      · exact hd t ht
theorem DTk.far {p : Addr} (h : DTk ti w lo t) (u : Value) {base e size n : Nat} {v : Value} {xs : List Value} (ho : w.ownsRow base e size v n xs) (hne : e ≠ ti) (hp : v.ownBlock = some p.block) : DTk ti (w.setCell p u) lo t := by
  obtain ⟨b, x, y, z, h1, h2, h3, h4, h5, h6⟩ := h
  have := own_ne ho h5 hne
  exact ⟨b, x, y, z, h1, h2, h3, h4, h5.far (fun e => this (by rw [hp, e])) _, h6⟩
end
theorem trow_set {ts : List TaskV} {k : Nat} {t : TaskV} (h : ts[k]? = some t) (u : Int) : (trow ts).set (k * 2) (.int .i64 u) = trow (ts.set k { t with id := u }) := by
  induction ts generalizing k with
  | nil => simp at h
  | cons q r ih =>
    have e : trow (q :: r) = .int .i64 q.id :: .slice q.a q.need.length q.c :: trow r := rfl
    cases k with
    | zero => simp at h; subst h; rfl
    | succ k =>
      have := ih (k := k) (by simpa using h)
      rw [e, show (k + 1) * 2 = k * 2 + 1 + 1 by omega, List.set_cons_succ, List.set_cons_succ, this, List.set_cons_succ]
      rfl
/-- drawn tasks in a slice of the call's own -/
theorem Tasks.of_drawn {ti : TypeId} {w : World} {base e : Nat} {v : Value} {ts : List TaskV} (h : w.ownsRow base e 2 v ts.length (trow ts)) (hn : ∀ t, t ∈ ts → DTk ti w base t) :
    ∃ A c, v = .slice A ts.length c ∧ Tasks w base w.heap.size A c ts := Tasks.of_own h (fun t ht => (hn t ht).ints)
end Go.Proofs.Ytcmampicgdobcaa
