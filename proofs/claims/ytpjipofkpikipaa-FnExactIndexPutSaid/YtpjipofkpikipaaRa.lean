/- Slices of slices of ints, read as lists. No condition. -/
import Derived.Test.YtpjipofkpikipaaRw
namespace Go.Proofs.Ytpjipofkpikipaa
open Go.RowKit
/-- a row as it lies -/
structure RowV where
  a : Option Addr
  c : Nat
  xs : List Int
def rcell (r : RowV) : Value := .slice r.a r.xs.length r.c
theorem rcell_one (rs : List RowV) : ∀ u ∈ rs.map rcell, u.oneCell' = true := by
  intro u hu
  obtain ⟨r, _, rfl⟩ := List.mem_map.1 hu
  rfl
/-- a slice of rows -/
def Rws (w : World) (lo hi : Nat) (A : Option Addr) (c : Nat) (rs : List RowV) : Prop :=
  Cells w lo hi A c rs.length 1 (rs.map rcell) ∧ ∀ r, r ∈ rs → Ints w lo hi r.a r.c r.xs
section
variable {w w' : World} {lo hi lo' hi' l h B c : Nat} {A : Option Addr} {rs : List RowV}
theorem Rws.at_ (h : Rws w lo hi A c rs) {k : Nat} (hk : k < rs.length) :
    ∃ b off r, A = some ⟨b, off, none⟩ ∧ rs[k]? = some r ∧ w.cell? ⟨b, off + k, none⟩ = some (.slice r.a r.xs.length r.c) ∧ lo ≤ b ∧ b < hi ∧ Ints w lo hi r.a r.c r.xs := by
  obtain ⟨b, off, h1, h2, h3, h4⟩ := h.1.form (by omega)
  have hp : rs[k]? = some rs[k] := List.getElem?_eq_getElem hk
  exact ⟨b, off, _, h1, hp, h4 k _ (by rw [List.getElem?_map, hp]; rfl), h2, h3, h.2 _ (List.getElem_mem hk)⟩
theorem Rws.below (h : Rws w lo hi A c rs) (hb : Below B w w') (hB : hi ≤ B) : Rws w' lo hi A c rs :=
  ⟨h.1.below hb hB, fun t ht => (h.2 t ht).below hb hB⟩
theorem Rws.mono (h : Rws w lo hi A c rs) (h1 : lo' ≤ lo) (h2 : hi ≤ hi') : Rws w lo' hi' A c rs :=
  ⟨h.1.mono h1 h2, fun t ht => (h.2 t ht).mono h1 h2⟩
theorem Rws.only (k : Rws w l h A c rs) (a : Only lo hi w w') (hd : h ≤ lo ∨ hi ≤ l) (hs : h ≤ w.heap.size) : Rws w' l h A c rs :=
  ⟨k.1.only a hd hs, fun t ht => (k.2 t ht).only a hd hs⟩
theorem Rws.drewN (h : Rws w lo hi A c rs) (n : Nat) : Rws (w.drewN n) lo hi A c rs := h
theorem Rws.len (h : Rws w lo hi A c rs) : rs.length ≤ c ∧ c ≤ maxLen := ⟨h.1.1, h.1.2.1⟩
theorem Rws.take (h : Rws w lo hi A c rs) {k : Nat} (hk : k ≤ rs.length) : Rws w lo hi A c (rs.take k) := by
  refine ⟨?_, fun t ht => h.2 t (List.mem_of_mem_take ht)⟩
  have := h.1.take hk
  rw [Nat.mul_one, ← List.map_take] at this
  rwa [List.length_take, Nat.min_eq_left hk]
theorem Rws.drop (h : Rws w lo hi A c rs) {k : Nat} (hk : k ≤ rs.length) : Rws w lo hi (if c = k then A else A.map (·.add k)) (c - k) (rs.drop k) := by
  refine ⟨?_, fun t ht => h.2 t (List.mem_of_mem_drop ht)⟩
  have := h.1.drop hk
  rw [Nat.mul_one, ← List.map_drop] at this
  rwa [List.length_drop]
theorem Rws.of_own {base e n : Nat} {v : Value} (h : w.ownsRow base e 1 v n (rs.map rcell)) (hn : n = rs.length) (hi : ∀ r, r ∈ rs → Ints w lo w.heap.size r.a r.c r.xs) (hl : lo ≤ base) :
    ∃ A c, v = .slice A rs.length c ∧ Rws w lo w.heap.size A c rs := by
  subst hn
  obtain ⟨A, c, he, hC⟩ := Cells.of_own h
  exact ⟨A, c, he, hC.mono hl (Nat.le_refl _), hi⟩
theorem Rws.zero (w : World) (lo hi : Nat) (A : Option Addr) (c : Nat) (hc : c ≤ maxLen) : Rws w lo hi A c [] :=
  ⟨⟨Nat.zero_le _, hc, rfl, .inl rfl⟩, by simp⟩
end
/-- a slice of rows that came in -/
def RwsR (w : World) (hi : Nat) (A : Option Addr) (rs : List RowV) : Prop :=
  (rs = [] ∨ ∃ b off, A = some ⟨b, off, none⟩ ∧ b < hi ∧ ∀ (j : Nat) r, rs[j]? = some r → w.cell? ⟨b, off + j, none⟩ = some (rcell r)) ∧
  ∀ r, r ∈ rs → IntsR w hi r.a r.xs
section
variable {w w' : World} {hi hi' lo B c : Nat} {A : Option Addr} {rs : List RowV}
theorem RwsR.at_ (h : RwsR w hi A rs) {k : Nat} (hk : k < rs.length) :
    ∃ b off r, A = some ⟨b, off, none⟩ ∧ rs[k]? = some r ∧ w.cell? ⟨b, off + k, none⟩ = some (.slice r.a r.xs.length r.c) ∧ b < hi ∧ IntsR w hi r.a r.xs := by
  rcases h.1 with rfl | ⟨b, off, h1, h2, h3⟩
  · simp at hk
  · have hp : rs[k]? = some rs[k] := List.getElem?_eq_getElem hk
    exact ⟨b, off, _, h1, hp, h3 _ _ hp, h2, h.2 _ (List.getElem_mem hk)⟩
theorem RwsR.below (h : RwsR w hi A rs) (hb : Below B w w') (hB : hi ≤ B) : RwsR w' hi A rs := by
  refine ⟨?_, fun t ht => (h.2 t ht).below hb hB⟩
  rcases h.1 with h | ⟨b, off, h1, h2, h3⟩
  · exact .inl h
  · exact .inr ⟨b, off, h1, h2, fun j t hj => by rw [hb.cell (show b < B by omega)]; exact h3 j t hj⟩
theorem Rws.r (h : Rws w lo hi A c rs) : RwsR w hi A rs := by
  refine ⟨?_, fun r hr => (h.2 r hr).r⟩
  by_cases h0 : rs.length = 0
  · exact .inl (List.eq_nil_of_length_eq_zero h0)
  · obtain ⟨b, off, h1, h2, h3, h4⟩ := h.1.form (by omega)
    exact .inr ⟨b, off, h1, h3, fun j r hj => h4 j _ (by rw [List.getElem?_map, hj]; rfl)⟩
end
theorem cell_belowR {B b o : Nat} {w w' : World} {v : Value} (h : Below B w w') (hq : b < B) (hc : w.cell? ⟨b, o, none⟩ = some v) : w'.cell? ⟨b, o, none⟩ = some v := (h.cell (p := ⟨b, o, none⟩) hq).trans hc
theorem undrewR {w w' : World} {B : Nat} (h : Below B w.drew w') : Below B w w' := ⟨h.os, h.tape, h.output, h.size, h.block⟩
/-! ### rows that do not share a block -/
def ApartR (u v : RowV) : Prop := ∀ b1 o1 b2 o2, u.xs ≠ [] → v.xs ≠ [] → u.a = some ⟨b1, o1, none⟩ → v.a = some ⟨b2, o2, none⟩ → b1 ≠ b2
def SepR (us : List RowV) : Prop := ∀ (i j : Nat) (u v : RowV), i < j → us[i]? = some u → us[j]? = some v → ApartR u v
theorem ApartR.symm {u v : RowV} (h : ApartR u v) : ApartR v u := fun b1 o1 b2 o2 h1 h2 e1 e2 => (h b2 o2 b1 o1 h2 h1 e2 e1).symm
theorem SepR.empty {us : List RowV} (h : ∀ u, u ∈ us → u.xs = []) : SepR us := fun _ _ u _ _ hu _ _ _ _ _ h1 => absurd (h u (List.mem_of_getElem? hu)) h1
/-- a new row differs from all that were there -/
theorem apart_new {w w2 : World} {lo : Nat} {u t : RowV} (h1 : Ints w lo w.heap.size u.a u.c u.xs) (h2 : Ints w2 w.heap.size w2.heap.size t.a t.c t.xs) : ApartR u t := by
  intro b1 o1 b2 o2 n1 n2 e1 e2
  obtain ⟨c1, p1, f1, _, g1, _⟩ := h1.form (List.length_pos_iff.2 n1)
  obtain ⟨c2, p2, f2, g2, _, _⟩ := h2.form (List.length_pos_iff.2 n2)
  rw [e1] at f1
  rw [e2] at f2
  simp only [Option.some.injEq, Addr.mk.injEq, and_true] at f1 f2
  omega
theorem SepR.set_ {us : List RowV} (h : SepR us) (k : Nat) {t : RowV} (ht : ∀ u, u ∈ us → ApartR u t) : SepR (us.set k t) := by
  intro i j u v hij hu hv
  rw [List.getElem?_set] at hu hv
  split at hu
  · split at hu
    · obtain rfl := Option.some.inj hu
      rw [if_neg (by omega)] at hv
      exact (ht v (List.mem_of_getElem? hv)).symm
    · cases hu
  · split at hv
    · split at hv
      · obtain rfl := Option.some.inj hv
        exact ht u (List.mem_of_getElem? hu)
      · cases hv
    · exact h i j u v hij hu hv
theorem SepR.snoc {us : List RowV} (h : SepR us) {t : RowV} (ht : ∀ u, u ∈ us → ApartR u t) : SepR (us ++ [t]) := by
  intro i j u v hij hu hv
  rw [List.getElem?_append] at hu hv
  split at hu
  · split at hv
    · exact h i j u v hij hu hv
    · have e : j - us.length = 0 := by have := (List.getElem?_eq_some_iff.1 hv).1; simp at this; omega
      rw [e] at hv; simp at hv; subst hv
      exact ht u (List.mem_of_getElem? hu)
  · rw [if_neg (by omega)] at hv
    have h9 := (List.getElem?_eq_some_iff.1 hv).1
    simp at h9; omega
/-! ### a table of the call's own -/
/-- block T holds the rows `us`, which lie in blocks above it -/
structure Tab (w : World) (T n : Nat) (e : TypeId) (us : List RowV) : Prop where
  own : w.ownsRow T e 1 (.slice (some ⟨T, 0, none⟩) n n) n (us.map rcell)
  len : us.length = n
  ints : ∀ r, r ∈ us → Ints w (T + 1) w.heap.size r.a r.c r.xs
  sep : SepR us
  lt : T < w.heap.size
section
variable {w w' : World} {T n : Nat} {e : TypeId} {us : List RowV}
theorem Tab.below (h : Tab w T n e us) (hb : Below w.heap.size w w') : Tab w' T n e us :=
  ⟨ownsRow_below h.own hb, h.len, fun r hr => ((h.ints r hr).below hb (Nat.le_refl _)).mono (Nat.le_refl _) hb.size, h.sep, Nat.lt_of_lt_of_le h.lt hb.size⟩
theorem Tab.heap (h : Tab w T n e us) (hh : w'.heap = w.heap) : Tab w' T n e us := by
  have hc : ∀ p : Addr, w'.heap[p.block]? = w.heap[p.block]? := fun p => by rw [hh]
  refine ⟨ownsRow_heap h.own hh, h.len, fun r hr => ?_, h.sep, by rw [hh]; exact h.lt⟩
  rw [hh]
  exact (h.ints r hr).keep fun p _ _ => ⟨World.cell?_of_block (hc p), World.frozen?_of_block (hc p)⟩
theorem Tab.at_ (h : Tab w T n e us) {k : Nat} (hk : k < n) : ∃ r, us[k]? = some r ∧ w.cell? ⟨T, k, none⟩ = some (.slice r.a r.xs.length r.c) ∧ w.frozen? ⟨T, k, none⟩ = false ∧ Ints w (T + 1) w.heap.size r.a r.c r.xs := by
  have hk2 : k < us.length := by rw [h.len]; exact hk
  have hu : us[k]? = some us[k] := List.getElem?_eq_getElem hk2
  refine ⟨_, hu, ?_, h.own.frozenAt k, h.ints _ (List.getElem_mem hk2)⟩
  rw [h.own.cellAt k (by omega), List.getElem?_map, hu]; rfl
/-- a new row is stored -/
theorem Tab.set_ {w0 : World} (h : Tab w0 T n e us) (hb : Below w0.heap.size w0 w) {k : Nat} {t : RowV} (ht : Ints w w0.heap.size w.heap.size t.a t.c t.xs) :
    Tab (w.setCell ⟨T, k, none⟩ (rcell t)) T n e (us.set k t) := by
  have h1 := h.below hb
  have hs : (w.setCell ⟨T, k, none⟩ (rcell t)).heap.size = w.heap.size := by simp [World.setCell]
  have ho : Only T (T + 1) w (w.setCell ⟨T, k, none⟩ (rcell t)) := (Only.refl _ _ _).setCell (p := ⟨T, k, none⟩) (Nat.le_refl _) (by simp) _
  refine ⟨?_, by rw [List.length_set]; exact h.len, fun r hr => ?_, h.sep.set_ k fun u hu => apart_new (h.ints u hu) ht, by rw [hs]; exact h1.lt⟩
  · rw [List.map_set]; exact (h1.own.stored k (rcell t)).1
  · rw [hs]
    rcases List.mem_or_eq_of_mem_set hr with h2 | rfl
    · exact (h1.ints r h2).only ho (.inr (Nat.le_refl _)) (Nat.le_refl _)
    · exact (ht.mono (show T + 1 ≤ w0.heap.size from h.lt) (Nat.le_refl _)).only ho (.inr (Nat.le_refl _)) (Nat.le_refl _)
theorem Tab.rws (h : Tab w T n e us) : Rws w T w.heap.size (some ⟨T, 0, none⟩) n us := by
  obtain ⟨A, c, he, hR⟩ := Rws.of_own (lo := T) h.own h.len.symm (fun r hr => (h.ints r hr).mono (by omega) (Nat.le_refl _)) (Nat.le_refl _)
  simp only [Value.slice.injEq] at he
  obtain ⟨rfl, -, rfl⟩ := he
  exact hR
end
/-- a table in new memory -/
def RetT (w : World) (us : List (List Int)) (e : TypeId) (en : Ending) (w' : World) : Prop :=
  (us = [] ∧ ∃ A c, en = .returned (.slice A 0 c) ∧ c ≤ maxLen ∧ Below w.heap.size w w') ∨
  ∃ T n, ∃ rs : List RowV, rs.map RowV.xs = us ∧ en = .returned (.slice (some ⟨T, 0, none⟩) n n) ∧ w.heap.size ≤ T ∧ Tab w' T n e rs ∧ Below w.heap.size w w'
end Go.Proofs.Ytpjipofkpikipaa
