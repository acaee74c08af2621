/- One element appended to a slice that the call itself owns, and a slice made, over any program: the laws of the kit with what a loop's relation wants. -/
import Derived.Test.YtcmampicgdobcaaMem
import Derived.Deep.AppendLies
import Derived.OwnWalk
namespace Go.Proofs.Ytcmampicgdobcaa
open Go.RowKit

/-- what the tables say of a slice type and its elements -/
structure Elem (P : Program) (t e : TypeId) (size bytes : Nat) : Prop where
  und : P.underlying t = some (.slice e)
  info : ∃ i z, P.info? e = some i ∧ i.zero = some z ∧ i.size = size ∧ i.bytes = bytes ∧ z.cells.size = size
  pos : 0 < size
theorem Elem.mk' {P : Program} {t e : TypeId} {z : Value} {size bytes : Nat} (hu : P.underlying t = some (.slice e)) (h : (P.info? e).map (fun i => (i.zero, i.size, i.bytes)) = some (some z, size, bytes)) (hz : z.cells.size = size) (hp : 0 < size) : Elem P t e size bytes := by
  obtain ⟨i, h1, h2, h3, h4⟩ := info_parts h
  exact ⟨hu, ⟨i, z, h1, h2, h3, h4, hz⟩, hp⟩

/-- w is w0 with one new block that holds `cs`, up to draws -/
structure Laid (w0 w : World) (cs : List Value) (e : TypeId) : Prop where
  heap : w.heap = (w0.alloc (.cells cs.toArray e)).heap
  os : w.os = w0.os
  tape : w.tape = w0.tape
  output : w.output = w0.output
theorem Laid.below {w0 w : World} {cs : List Value} {e : TypeId} (h : Laid w0 w cs e) : Below w0.heap.size w0 w :=
  ⟨h.os, h.tape, h.output, by rw [h.heap]; simp, fun k hk => by rw [h.heap]; exact Below.heap_alloc w0 _ k hk⟩
theorem Laid.new {w0 w : World} {cs : List Value} {e : TypeId} (h : Laid w0 w cs e) : w.heap[w0.heap.size]? = some (.cells cs.toArray e (0, 0)) := by
  rw [h.heap]; exact heap_alloc_new w0 _
theorem Laid.size {w0 w : World} {cs : List Value} {e : TypeId} (h : Laid w0 w cs e) : w.heap.size = w0.heap.size + 1 := by rw [h.heap]; simp

theorem ownsRow_heap {w w' : World} {base e size n : Nat} {v : Value} {xs : List Value} (h : w.ownsRow base e size v n xs) (hh : w'.heap = w.heap) : w'.ownsRow base e size v n xs := by
  unfold World.ownsRow at *; rw [hh]; exact h
theorem ownsRow_base {w : World} {base base' e size n : Nat} {v : Value} {xs : List Value} (h : w.ownsRow base e size v n xs) (hb : base' ≤ base) : w.ownsRow base' e size v n xs := by
  refine ⟨h.1, ?_⟩
  rcases h.2 with h | ⟨g, cap, cur, h1, h2, h3⟩
  · exact .inl h
  · exact .inr ⟨g, cap, cur, h1, by omega, h3⟩
/-- what is owned stays owned over a call that changes nothing of what was there -/
theorem ownsRow_below {w w' : World} {base e size n : Nat} {v : Value} {xs : List Value} (h : w.ownsRow base e size v n xs) (hb : Below w.heap.size w w') : w'.ownsRow base e size v n xs := by
  refine ⟨h.1, ?_⟩
  rcases h.2 with h | ⟨g, cap, cur, h1, h2, h3, h4⟩
  · exact .inl h
  · exact .inr ⟨g, cap, cur, h1, h2, by rw [hb.block g (Array.getElem?_eq_some_iff.1 h3).1]; exact h3, h4⟩
theorem ownsRow_only {w w' : World} {base e size n lo hi : Nat} {v : Value} {xs : List Value} (h : w.ownsRow base e size v n xs) (hb : Only lo hi w w') (hd : hi ≤ base) : w'.ownsRow base e size v n xs := by
  refine ⟨h.1, ?_⟩
  rcases h.2 with h | ⟨g, cap, cur, h1, h2, h3, h4⟩
  · exact .inl h
  · exact .inr ⟨g, cap, cur, h1, h2, by rw [hb.block g (Array.getElem?_eq_some_iff.1 h3).1 (by omega)]; exact h3, h4⟩

section
variable {P : Program}

theorem run_app1 {t e : TypeId} {size bytes : Nat} (E : Elem P t e size bytes) (ty : TypeId) {base n : Nat} {v : Value} {xs : List Value} (w0 w : World) (hown : w0.ownsRow base e size v n xs)
    (cs : List Value) (hl : Laid w0 w cs e) (hcs : cs.length = size) (h1 : ∀ u ∈ cs, u.oneCell' = true) (hbase : base ≤ w0.heap.size) (h63 : n + 1 ≤ maxLen) (hbytes : (n + 1) * bytes ≤ 140737488355328) :
    ∃ g cap w', (Builtin.append_ #[t, t] ty #[v, .slice (some ⟨w0.heap.size, 0, none⟩) 1 1]).run P w = .ok (.slice (some ⟨g, 0, none⟩) (n + 1) cap) w' ∧
      w'.ownsRow base e size (.slice (some ⟨g, 0, none⟩) (n + 1) cap) (n + 1) (xs ++ cs) ∧ Below base w0 w' ∧ w0.grownBy w' v.ownBlock ∧ w0.heap.size < w'.heap.size ∧ (v.ownBlock = some g ∨ w0.heap.size < g) := by
  obtain ⟨i, z, hi, hz, hs, hb, hzs⟩ := E.info
  have hown' : w.ownsRow base e size v n xs := ownsRow_below hown hl.below
  obtain ⟨g, cap, w', hr, h2, h3, h4, h5⟩ := run_append_lies (P := P) w t ty base e i z size bytes E.und hi hz hs hb hzs E.pos v n xs hown' ⟨w0.heap.size, 0, none⟩ 1 1 cs (by omega)
    (World.news_of_block (cs := cs.toArray) (t := e) (fr := (0, 0)) hl.new) h1 (by omega) h63 hbytes (by have := hl.size; omega) _ rfl
  have hg : w0.grownBy w' v.ownBlock := ⟨h3.os.trans hl.os, h3.tape.trans hl.tape, h3.output.trans hl.output, by have := h3.size; have := hl.size; omega,
    fun k hk hne => (h3.block k (by have := hl.size; omega) hne).trans (hl.below.block k hk)⟩
  refine ⟨g, cap, w', hr, h2, (Below.refl _ _).grown hg hbase (fun k hk => (hown.lt k hk).1), hg, by have := h3.size; have := hl.size; omega, ?_⟩
  rcases h4 with h4 | h4
  · exact .inl h4
  · right; have := hl.size; omega

theorem wp_app1 {t e : TypeId} {size bytes : Nat} (E : Elem P t e size bytes) {o : Oper} {a : Act} {K : Act → World → Prop} {Q : Exit → Act → World → Prop} (s x : Operand)
    (ho : o.op = .call { callee := .builtin .append, args := #[s, x], argTypes := #[t, t] })
    {base n : Nat} {v : Value} {xs : List Value} (w0 w : World) (hown : w0.ownsRow base e size v n xs)
    (cs : List Value) (hs : a.eval s = v) (hx : a.eval x = .slice (some ⟨w0.heap.size, 0, none⟩) 1 1) (hl : Laid w0 w cs e) (hcs : cs.length = size) (h1 : ∀ u ∈ cs, u.oneCell' = true) (hbase : base ≤ w0.heap.size) (h63 : n + 1 ≤ maxLen) (hbytes : (n + 1) * bytes ≤ 140737488355328)
    (h : ∀ g cap w', w'.ownsRow base e size (.slice (some ⟨g, 0, none⟩) (n + 1) cap) (n + 1) (xs ++ cs) → Below base w0 w' → w0.grownBy w' v.ownBlock → w0.heap.size < w'.heap.size → (v.ownBlock = some g ∨ w0.heap.size < g) → K (a.put o.dst (.slice (some ⟨g, 0, none⟩) (n + 1) cap)) w') : o.wp P a w K Q := by
  obtain ⟨g, cap, w', hr, h2, h3, h4, h5, h6⟩ := run_app1 (P := P) E o.type w0 w hown cs hl hcs h1 hbase h63 hbytes
  unfold Oper.wp execOp
  simp only [ho, resolve, invoke, builtin, Sem.run_bind, Sem.run_pure, Result.andThen_ok, List.map_toArray, List.map_cons, List.map_nil, hs, hx, hr]
  exact h g cap w' h2 h3 h4 h5 h6

/-- at the list of a plain region -/
theorem wpList_app1 {t e : TypeId} {size bytes : Nat} (E : Elem P t e size bytes) {ops : Array Oper} {rest : List Oper} {o : Oper} {a : Act} {Q : Exit → Act → World → Prop} (hgd : o.guard = none) (s x : Operand)
    (ho : o.op = .call { callee := .builtin .append, args := #[s, x], argTypes := #[t, t] })
    {base n : Nat} {v : Value} {xs : List Value} (w0 w : World) (hown : w0.ownsRow base e size v n xs)
    (cs : List Value) (hs : a.eval s = v) (hx : a.eval x = .slice (some ⟨w0.heap.size, 0, none⟩) 1 1) (hl : Laid w0 w cs e) (hcs : cs.length = size) (h1 : ∀ u ∈ cs, u.oneCell' = true) (hbase : base ≤ w0.heap.size) (h63 : n + 1 ≤ maxLen) (hbytes : (n + 1) * bytes ≤ 140737488355328)
    (h : ∀ g cap w', w'.ownsRow base e size (.slice (some ⟨g, 0, none⟩) (n + 1) cap) (n + 1) (xs ++ cs) → Below base w0 w' → w0.grownBy w' v.ownBlock → w0.heap.size < w'.heap.size → (v.ownBlock = some g ∨ w0.heap.size < g) → wpList P ops Q rest (a.put o.dst (.slice (some ⟨g, 0, none⟩) (n + 1) cap)) w') : wpList P ops Q (o :: rest) a w :=
  wpList_plain hgd fun _ hK => wp_app1 E s x ho w0 w hown cs hs hx hl hcs h1 hbase h63 hbytes fun g cap w' h2 h3 h4 h5 h6 => hK _ _ (h g cap w' h2 h3 h4 h5 h6)

/-- at a step of a region that draws its order -/
theorem step_app1 {t e : TypeId} {size bytes : Nat} (E : Elem P t e size bytes) {ops : Array Oper} {o : Oper} {a : Act} {K : Act → World → Prop} {Q : Exit → Act → World → Prop} {D : Prop} (hgd : o.guard = none) (s x : Operand)
    (ho : o.op = .call { callee := .builtin .append, args := #[s, x], argTypes := #[t, t] })
    {base n : Nat} {v : Value} {xs : List Value} (w0 w : World) (hown : w0.ownsRow base e size v n xs)
    (cs : List Value) (hs : a.eval s = v) (hx : a.eval x = .slice (some ⟨w0.heap.size, 0, none⟩) 1 1) (hl : Laid w0 w cs e) (hcs : cs.length = size) (h1 : ∀ u ∈ cs, u.oneCell' = true) (hbase : base ≤ w0.heap.size) (h63 : n + 1 ≤ maxLen) (hbytes : (n + 1) * bytes ≤ 140737488355328)
    (h : ∀ g cap w', w'.ownsRow base e size (.slice (some ⟨g, 0, none⟩) (n + 1) cap) (n + 1) (xs ++ cs) → Below base w0 w' → w0.grownBy w' v.ownBlock → w0.heap.size < w'.heap.size → (v.ownBlock = some g ∨ w0.heap.size < g) → K (a.put o.dst (.slice (some ⟨g, 0, none⟩) (n + 1) cap)) w') :
    if Region.wanted o (yielded ops a.tmps) = true then Oper.wp P o a w K Q else D := by
  have hw : Region.wanted o (yielded ops a.tmps) = true := by simp [Region.wanted, hgd]
  rw [if_pos hw]
  exact wp_app1 E s x ho w0 w hown cs hs hx hl hcs h1 hbase h63 hbytes h
end
section
variable {P : Program}
/-- ints appended to a slice of the call's own: the source may be nil -/
theorem run_appI {t e : TypeId} (E : Elem P t e 1 8) (ty : TypeId) {base n hi : Nat} {v : Value} {xs : List Value} (w : World) (hown : w.ownsRow base e 1 v n xs)
    (A : Option Addr) (c : Nat) (ys : List Int) (hI : IntsR w hi A ys) (hbase : base ≤ w.heap.size) (hn : n + ys.length ≤ 1099511627776) :
    ∃ A' c' w', (Builtin.append_ #[t, t] ty #[v, .slice A ys.length c]).run P w = .ok (.slice A' (n + ys.length) c') w' ∧
      w'.ownsRow base e 1 (.slice A' (n + ys.length) c') (n + ys.length) (xs ++ ys.map (Value.int .i64)) ∧ Below base w w' ∧ w.grownBy w' v.ownBlock := by
  obtain ⟨i, z, hi1, hz, hs, hb, hzs⟩ := E.info
  have key : ∀ (v' : Value) (w' : World), w'.ownsRow base e 1 v' (n + ys.length) (xs ++ ys.map (Value.int .i64)) → ∃ A' c', v' = Value.slice A' (n + ys.length) c' := by
    intro v' w' h
    rcases h.2 with ⟨rfl, h0⟩ | ⟨g, cap, cur, rfl, _⟩
    · exact ⟨none, 0, by rw [h0]⟩
    · exact ⟨_, _, rfl⟩
  rcases A with _ | ad
  · have hy : ys = [] := by
      rcases hI with h | ⟨b, off, h, _⟩
      · exact h
      · cases h
    subst hy
    have hr : (Builtin.append_ #[t, t] ty #[v, .slice none 0 c]).run P w = .ok v w := by
      rcases hown.2 with ⟨rfl, rfl⟩ | ⟨g, cap, cur, rfl, _, _, hnc, _⟩
      · simp [Builtin.append_, run_underlying E.und, sizeOf, typeInfo, hi1, Builtin.lenOf, Builtin.firstCells]
      · simp [Builtin.append_, run_underlying E.und, sizeOf, typeInfo, hi1, Builtin.lenOf, Builtin.firstCells, hnc, storeCells]
    obtain ⟨A', c', hv⟩ := key v w (by simpa using hown)
    exact ⟨A', c', w, by rw [← hv]; exact hr, by rw [← hv]; simpa using hown, Below.refl _ _, World.grownBy.refl w _⟩
  · have hc : ∀ j u, (ys.map (Value.int .i64))[j]? = some u → w.cell? (ad.add j) = some u := by
      intro j u hu
      rcases hI with rfl | ⟨b, off, h, _, h4⟩
      · simp at hu
      · injection h with h
        subst h
        rw [List.getElem?_map] at hu
        cases hy : ys[j]? with
        | none => rw [hy] at hu; cases hu
        | some y =>
          rw [hy] at hu
          injection hu with hu
          subst hu
          rw [show ((⟨b, off, none⟩ : Addr).add j) = ⟨b, off + j, none⟩ by unfold Addr.add; split <;> simp_all]
          exact h4 j y hy
    obtain ⟨v', w', hr, h2, h3, _, h5⟩ := run_append_own_at (P := P) w base t ty e i z 1 8 E.und hi1 hz hs hb hzs (by omega) v n xs hown ad ys.length c (ys.map (Value.int .i64)) (by simp) hc (ints_oneCell _ _) (by simp only [maxLen]; omega) (by omega) hbase
    obtain ⟨A', c', rfl⟩ := key v' w' h2
    exact ⟨A', c', w', hr, h2, (Below.refl _ _).grown h3 hbase (fun k hk => (hown.lt k hk).1), h3⟩
theorem wp_appI {t e : TypeId} (E : Elem P t e 1 8) {o : Oper} {a : Act} {K : Act → World → Prop} {Q : Exit → Act → World → Prop} (s x : Operand)
    (ho : o.op = .call { callee := .builtin .append, args := #[s, x], argTypes := #[t, t] })
    {base n hi : Nat} {v : Value} {xs : List Value} (w : World) (hown : w.ownsRow base e 1 v n xs)
    (A : Option Addr) (m c : Nat) (ys : List Int) (hs : a.eval s = v) (hx : a.eval x = .slice A m c) (hm : m = ys.length) (hI : IntsR w hi A ys) (hbase : base ≤ w.heap.size) (hn : n + m ≤ 1099511627776)
    (h : ∀ A' c' w', w'.ownsRow base e 1 (.slice A' (n + m) c') (n + m) (xs ++ ys.map (Value.int .i64)) → Below base w w' → w.grownBy w' v.ownBlock → K (a.put o.dst (.slice A' (n + m) c')) w') : o.wp P a w K Q := by
  subst hm
  obtain ⟨A', c', w', hr, h2, h3, h4⟩ := run_appI (P := P) E o.type w hown A c ys hI hbase hn
  unfold Oper.wp execOp
  simp only [ho, resolve, invoke, builtin, Sem.run_bind, Sem.run_pure, Result.andThen_ok, List.map_toArray, List.map_cons, List.map_nil, hs, hx, hr]
  exact h A' c' w' h2 h3 h4
theorem wpList_appI {t e : TypeId} (E : Elem P t e 1 8) {ops : Array Oper} {rest : List Oper} {o : Oper} {a : Act} {Q : Exit → Act → World → Prop} (hgd : o.guard = none) (s x : Operand)
    (ho : o.op = .call { callee := .builtin .append, args := #[s, x], argTypes := #[t, t] })
    {base n hi : Nat} {v : Value} {xs : List Value} (w : World) (hown : w.ownsRow base e 1 v n xs)
    (A : Option Addr) (m c : Nat) (ys : List Int) (hs : a.eval s = v) (hx : a.eval x = .slice A m c) (hm : m = ys.length) (hI : IntsR w hi A ys) (hbase : base ≤ w.heap.size) (hn : n + m ≤ 1099511627776)
    (h : ∀ A' c' w', w'.ownsRow base e 1 (.slice A' (n + m) c') (n + m) (xs ++ ys.map (Value.int .i64)) → Below base w w' → w.grownBy w' v.ownBlock → wpList P ops Q rest (a.put o.dst (.slice A' (n + m) c')) w') : wpList P ops Q (o :: rest) a w :=
  wpList_plain hgd fun _ hK => wp_appI E s x ho w hown A m c ys hs hx hm hI hbase hn fun A' c' w' h2 h3 h4 => hK _ _ (h A' c' w' h2 h3 h4)
end
theorem one_int (z : Int) : ∀ u ∈ [Value.int .i64 z], u.oneCell' = true := by
  intro u hu; simp at hu; subst hu; rfl
/-- an empty literal of slices -/
theorem ownsRow_empty (w : World) (e size : Nat) : (w.alloc (.cells #[] e)).ownsRow w.heap.size e size (.slice (some ⟨w.heap.size, 0, none⟩) 0 0) 0 [] :=
  World.ownsRow_made w #[] 0 (Nat.le_refl _) (by simp [maxLen]) (by simp)
/-- wraps of small numbers -/
theorem wrap_small {x : Int} (h : -4611686018427387904 ≤ x ∧ x ≤ 4611686018427387904) : IntKind.i64.wrap x = x := by
  rw [IntKind.wrap_i64]; omega
end Go.Proofs.Ytcmampicgdobcaa
