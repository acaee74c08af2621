/- Slices whose elements take several cells, read as a list of cells; appended to a slice of the call's own. No condition. -/
import Derived.Test.YtcmampicgdobcaaApp
namespace Go.Proofs.Ytcmampicgdobcaa
open Go.RowKit
/-- a slice of n elements of `size` cells each: the cells `xs`, in one block between lo and hi -/
def Cells (w : World) (lo hi : Nat) (A : Option Addr) (c n size : Nat) (xs : List Value) : Prop :=
  n ≤ c ∧ c ≤ maxLen ∧ xs.length = n * size ∧ (n = 0 ∨ ∃ b off, A = some ⟨b, off, none⟩ ∧ lo ≤ b ∧ b < hi ∧ ∀ j v, xs[j]? = some v → w.cell? ⟨b, off + j, none⟩ = some v)
section
variable {w w' : World} {lo hi lo' hi' B c n size : Nat} {A : Option Addr} {xs : List Value}
theorem Cells.form (h : Cells w lo hi A c n size xs) (hn : 0 < n) : ∃ b off, A = some ⟨b, off, none⟩ ∧ lo ≤ b ∧ b < hi ∧ ∀ j v, xs[j]? = some v → w.cell? ⟨b, off + j, none⟩ = some v :=
  h.2.2.2.resolve_left (by omega)
theorem Cells.keep (h : Cells w lo hi A c n size xs) (hk : ∀ p : Addr, lo ≤ p.block → p.block < hi → w'.cell? p = w.cell? p) : Cells w' lo hi A c n size xs := by
  refine ⟨h.1, h.2.1, h.2.2.1, ?_⟩
  rcases h.2.2.2 with h | ⟨b, off, h1, h2, h3, h4⟩
  · exact .inl h
  · exact .inr ⟨b, off, h1, h2, h3, fun j v hj => by rw [hk ⟨b, off + j, none⟩ h2 h3]; exact h4 j v hj⟩
theorem Cells.below (h : Cells w lo hi A c n size xs) (hb : Below B w w') (hB : hi ≤ B) : Cells w' lo hi A c n size xs := h.keep fun _ _ h2 => hb.cell (by omega)
theorem Cells.mono (h : Cells w lo hi A c n size xs) (h1 : lo' ≤ lo) (h2 : hi ≤ hi') : Cells w lo' hi' A c n size xs := by
  refine ⟨h.1, h.2.1, h.2.2.1, ?_⟩
  rcases h.2.2.2 with h | ⟨b, off, g1, g2, g3, g4⟩
  · exact .inl h
  · exact .inr ⟨b, off, g1, by omega, by omega, g4⟩
theorem Cells.step (h : Cells w lo w.heap.size A c n size xs) (hb : Below w.heap.size w w') : Cells w' lo w'.heap.size A c n size xs :=
  (h.below hb (Nat.le_refl _)).mono (Nat.le_refl _) hb.size
theorem Cells.only {l h : Nat} (k : Cells w l h A c n size xs) (a : Only lo hi w w') (hd : h ≤ lo ∨ hi ≤ l) (hs : h ≤ w.heap.size) : Cells w' l h A c n size xs :=
  k.keep fun p h1 h2 => World.cell?_of_block (a.block p.block (by omega) (by omega))
theorem Cells.of_own {base e : Nat} {v : Value} (h : w.ownsRow base e size v n xs) : ∃ A c, v = .slice A n c ∧ Cells w base w.heap.size A c n size xs := by
  rcases h.2 with ⟨rfl, rfl⟩ | ⟨g, cap, cur, rfl, hb, hg, hnc, hcm, _, htake⟩
  · exact ⟨none, 0, rfl, Nat.le_refl _, by simp [maxLen], h.1, .inl rfl⟩
  · refine ⟨_, _, rfl, hnc, hcm, h.1, .inr ⟨g, 0, rfl, hb, (Array.getElem?_eq_some_iff.1 hg).1, fun j v hj => ?_⟩⟩
    have hjl : j < n * size := by have := (List.getElem?_eq_some_iff.1 hj).1; rw [h.1] at this; exact this
    rw [Nat.zero_add, h.cellAt j hjl, hj]
theorem Cells.take (h : Cells w lo hi A c n size xs) {k : Nat} (hk : k ≤ n) : Cells w lo hi A c k size (xs.take (k * size)) := by
  refine ⟨by have := h.1; omega, h.2.1, by rw [List.length_take, h.2.2.1]; exact Nat.min_eq_left (Nat.mul_le_mul_right _ hk), ?_⟩
  by_cases h0 : k = 0
  · exact .inl h0
  · obtain ⟨b, off, h1, h2, h3, h4⟩ := h.form (by omega)
    refine .inr ⟨b, off, h1, h2, h3, fun j v hj => h4 j v ?_⟩
    rw [List.getElem?_take] at hj
    split at hj
    · exact hj
    · cases hj
/-- `s[k:]`: the address as the model gives it -/
theorem Cells.drop (h : Cells w lo hi A c n size xs) {k : Nat} (hk : k ≤ n) : Cells w lo hi (if c = k then A else A.map (·.add (k * size))) (c - k) (n - k) size (xs.drop (k * size)) := by
  refine ⟨by have := h.1; omega, by have := h.2.1; omega, by rw [List.length_drop, h.2.2.1, Nat.sub_mul], ?_⟩
  by_cases h0 : n - k = 0
  · exact .inl h0
  · obtain ⟨b, off, h1, h2, h3, h4⟩ := h.form (by omega)
    rw [if_neg (by have := h.1; omega), h1]
    refine .inr ⟨b, off + k * size, ?_, h2, h3, fun j v hj => ?_⟩
    · simp only [Option.map_some, Option.some.injEq]
      unfold Addr.add
      by_cases hz : k * size = 0
      · rw [if_pos hz, hz, Nat.add_zero]
      · rw [if_neg hz]
    · rw [List.getElem?_drop] at hj
      rw [Nat.add_assoc]
      exact h4 _ v hj
end
section
variable {P : Program}
/-- the elements of a slice appended to a slice of the call's own: the source may be nil -/
theorem run_appC {t e : TypeId} {size bytes : Nat} (E : Elem P t e size bytes) (ty : TypeId) {base n lo hi : Nat} {v : Value} {xs : List Value} (w : World) (hown : w.ownsRow base e size v n xs)
    (A : Option Addr) (m c : Nat) (ys : List Value) (hI : Cells w lo hi A c m size ys) (h1 : ∀ u ∈ ys, u.oneCell' = true) (hbase : base ≤ w.heap.size) (h63 : n + m ≤ maxLen) (hbytes : (n + m) * bytes ≤ 140737488355328) :
    ∃ A' c' w', (Builtin.append_ #[t, t] ty #[v, .slice A m c]).run P w = .ok (.slice A' (n + m) c') w' ∧
      w'.ownsRow base e size (.slice A' (n + m) c') (n + m) (xs ++ ys) ∧ Below base w w' ∧ w.grownBy w' v.ownBlock := by
  obtain ⟨i, z, hi1, hz, hs, hb, hzs⟩ := E.info
  have key : ∀ (v' : Value) (w' : World), w'.ownsRow base e size v' (n + m) (xs ++ ys) → ∃ A' c', v' = Value.slice A' (n + m) c' := by
    intro v' w' h
    rcases h.2 with ⟨rfl, h0⟩ | ⟨g, cap, cur, rfl, _⟩
    · exact ⟨none, 0, by rw [h0]⟩
    · exact ⟨_, _, rfl⟩
  rcases A with _ | ad
  · obtain rfl : m = 0 := by
      rcases hI.2.2.2 with h | ⟨b, off, h, _⟩
      · exact h
      · cases h
    have hy : ys = [] := List.eq_nil_of_length_eq_zero (by simpa using hI.2.2.1)
    subst hy
    have hr : (Builtin.append_ #[t, t] ty #[v, .slice none 0 c]).run P w = .ok v w := by
      rcases hown.2 with ⟨rfl, rfl⟩ | ⟨g, cap, cur, rfl, _, _, hnc, _⟩
      · simp [Builtin.append_, run_underlying E.und, sizeOf, typeInfo, hi1, Builtin.lenOf, Builtin.firstCells]
      · simp [Builtin.append_, run_underlying E.und, sizeOf, typeInfo, hi1, Builtin.lenOf, Builtin.firstCells, hnc, storeCells]
    obtain ⟨A', c', hv⟩ := key v w (by simpa using hown)
    exact ⟨A', c', w, by rw [← hv]; exact hr, by rw [← hv]; simpa using hown, Below.refl _ _, World.grownBy.refl w _⟩
  · have hc : ∀ j u, ys[j]? = some u → w.cell? (ad.add j) = some u := by
      intro j u hu
      have hm : 0 < m := by
        have h1 := (List.getElem?_eq_some_iff.1 hu).1
        rcases Nat.eq_zero_or_pos m with h | h
        · rw [hI.2.2.1, h] at h1; simp at h1
        · exact h
      obtain ⟨b, off, h, _, _, h4⟩ := hI.form hm
      injection h with h
      subst h
      rw [show ((⟨b, off, none⟩ : Addr).add j) = ⟨b, off + j, none⟩ by unfold Addr.add; split <;> simp_all]
      exact h4 j u hu
    obtain ⟨v', w', hr, h2, h3, _, h5⟩ := run_append_own_at (P := P) w base t ty e i z size bytes E.und hi1 hz hs hb hzs E.pos v n xs hown ad m c ys hI.2.2.1 hc h1 h63 hbytes hbase
    obtain ⟨A', c', rfl⟩ := key v' w' h2
    exact ⟨A', c', w', hr, h2, (Below.refl _ _).grown h3 hbase (fun k hk => (hown.lt k hk).1), h3⟩
theorem wp_appC {t e : TypeId} {size bytes : Nat} (E : Elem P t e size bytes) {o : Oper} {a : Act} {K : Act → World → Prop} {Q : Exit → Act → World → Prop} (s x : Operand)
    (ho : o.op = .call { callee := .builtin .append, args := #[s, x], argTypes := #[t, t] })
    {base n lo hi : Nat} {v : Value} {xs : List Value} (w : World) (hown : w.ownsRow base e size v n xs)
    (A : Option Addr) (m c : Nat) (ys : List Value) (hs : a.eval s = v) (hx : a.eval x = .slice A m c) (hI : Cells w lo hi A c m size ys) (h1 : ∀ u ∈ ys, u.oneCell' = true) (hbase : base ≤ w.heap.size) (h63 : n + m ≤ maxLen) (hbytes : (n + m) * bytes ≤ 140737488355328)
    (h : ∀ A' c' w', w'.ownsRow base e size (.slice A' (n + m) c') (n + m) (xs ++ ys) → Below base w w' → w.grownBy w' v.ownBlock → K (a.put o.dst (.slice A' (n + m) c')) w') : o.wp P a w K Q := by
  obtain ⟨A', c', w', hr, h2, h3, h4⟩ := run_appC (P := P) E o.type w hown A m c ys hI h1 hbase h63 hbytes
  unfold Oper.wp execOp
  simp only [ho, resolve, invoke, builtin, Sem.run_bind, Sem.run_pure, Result.andThen_ok, List.map_toArray, List.map_cons, List.map_nil, hs, hx, hr]
  exact h A' c' w' h2 h3 h4
theorem wpList_appC {t e : TypeId} {size bytes : Nat} (E : Elem P t e size bytes) {ops : Array Oper} {rest : List Oper} {o : Oper} {a : Act} {Q : Exit → Act → World → Prop} (hgd : o.guard = none) (s x : Operand)
    (ho : o.op = .call { callee := .builtin .append, args := #[s, x], argTypes := #[t, t] })
    {base n lo hi : Nat} {v : Value} {xs : List Value} (w : World) (hown : w.ownsRow base e size v n xs)
    (A : Option Addr) (m c : Nat) (ys : List Value) (hs : a.eval s = v) (hx : a.eval x = .slice A m c) (hI : Cells w lo hi A c m size ys) (h1 : ∀ u ∈ ys, u.oneCell' = true) (hbase : base ≤ w.heap.size) (h63 : n + m ≤ maxLen) (hbytes : (n + m) * bytes ≤ 140737488355328)
    (h : ∀ A' c' w', w'.ownsRow base e size (.slice A' (n + m) c') (n + m) (xs ++ ys) → Below base w w' → w.grownBy w' v.ownBlock → wpList P ops Q rest (a.put o.dst (.slice A' (n + m) c')) w') : wpList P ops Q (o :: rest) a w :=
  wpList_plain hgd fun _ hK => wp_appC E s x ho w hown A m c ys hs hx hI h1 hbase h63 hbytes fun A' c' w' h2 h3 h4 => hK _ _ (h A' c' w' h2 h3 h4)
theorem step_appC {t e : TypeId} {size bytes : Nat} (E : Elem P t e size bytes) {ops : Array Oper} {o : Oper} {a : Act} {K : Act → World → Prop} {Q : Exit → Act → World → Prop} {D : Prop} (hgd : o.guard = none) (s x : Operand)
    (ho : o.op = .call { callee := .builtin .append, args := #[s, x], argTypes := #[t, t] })
    {base n lo hi : Nat} {v : Value} {xs : List Value} (w : World) (hown : w.ownsRow base e size v n xs)
    (A : Option Addr) (m c : Nat) (ys : List Value) (hs : a.eval s = v) (hx : a.eval x = .slice A m c) (hI : Cells w lo hi A c m size ys) (h1 : ∀ u ∈ ys, u.oneCell' = true) (hbase : base ≤ w.heap.size) (h63 : n + m ≤ maxLen) (hbytes : (n + m) * bytes ≤ 140737488355328)
    (h : ∀ A' c' w', w'.ownsRow base e size (.slice A' (n + m) c') (n + m) (xs ++ ys) → Below base w w' → w.grownBy w' v.ownBlock → K (a.put o.dst (.slice A' (n + m) c')) w') :
    if Region.wanted o (yielded ops a.tmps) = true then Oper.wp P o a w K Q else D := by
  have hw : Region.wanted o (yielded ops a.tmps) = true := by simp [Region.wanted, hgd]
  rw [if_pos hw]
  exact wp_appC E s x ho w hown A m c ys hs hx hI h1 hbase h63 hbytes h
end
end Go.Proofs.Ytcmampicgdobcaa
