/- Own clusters; l21Copy. No condition but on sizes. -/
import Derived.Test.YtcmampicgdobcaaCy
namespace Go.Proofs.Ytcmampicgdobcaa
open Go.RowKit
/-- an own row of units, each with its own row of tasks, all in different blocks -/
structure OwnU (w : World) (base : Nat) (A : Option Addr) (c : Nat) (us : List UniV) : Prop where
  row : w.ownsRow base 48 2 (.slice A us.length c) us.length (urowT us)
  each : ∀ u, u ∈ us → OwnT w base u.a u.c u.ts
  dist : Dist (us.map ubin)
theorem OwnT.below {w w' : World} {base c : Nat} {A : Option Addr} {us : List TaskV} (h : OwnT w base A c us) (hb : Below w.heap.size w w') : OwnT w' base A c us :=
  ⟨ownsRow_below h.1 hb, fun t ht => (h.2 t ht).step hb⟩
theorem OwnT.mono {w : World} {base base' c : Nat} {A : Option Addr} {us : List TaskV} (h : OwnT w base A c us) (hb : base' ≤ base) : OwnT w base' A c us :=
  ⟨ownsRow_base h.1 hb, fun t ht => (h.2 t ht).mono hb (Nat.le_refl _)⟩
/-- another own row is changed -/
theorem OwnT.grown {w w' : World} {base base2 e2 s n c : Nat} {A : Option Addr} {v : Value} {xs : List Value} {us : List TaskV} (h : OwnT w base A c us) (hg : w.grownBy w' v.ownBlock) (ho : w.ownsRow base2 e2 s v n xs) (hs : w.heap.size ≤ w'.heap.size)
    (hi : e2 ≠ 3) (hne : ∀ g, (Value.slice A us.length c).ownBlock = some g → v.ownBlock ≠ some g) : OwnT w' base A c us :=
  ⟨ownsRow_grown h.1 hg hne, fun t ht => ((h.2 t ht).grown hg ho hi).mono (Nat.le_refl _) hs⟩
theorem OwnU.units {w : World} {base c : Nat} {A : Option Addr} {us : List UniV} (h : OwnU w base A c us) : UniT w base w.heap.size A c us := by
  obtain ⟨A9, c9, he, hC⟩ := Cells.of_own h.row
  simp only [Value.slice.injEq, true_and] at he
  obtain ⟨rfl, rfl⟩ := he
  exact ⟨hC, fun u hu => (h.each u hu).tasks⟩
theorem OwnU.below {w w' : World} {base c : Nat} {A : Option Addr} {us : List UniV} (h : OwnU w base A c us) (hb : Below w.heap.size w w') : OwnU w' base A c us :=
  ⟨ownsRow_below h.row hb, fun u hu => (h.each u hu).below hb, h.dist⟩
theorem OwnU.mono {w : World} {base base' c : Nat} {A : Option Addr} {us : List UniV} (h : OwnU w base A c us) (hb : base' ≤ base) : OwnU w base' A c us :=
  ⟨ownsRow_base h.row hb, fun u hu => (h.each u hu).mono hb, h.dist⟩
theorem OwnT.only {w w' : World} {lo hi base c : Nat} {A : Option Addr} {us : List TaskV} (h : OwnT w base A c us) (a : Only lo hi w w') (hd : hi ≤ base) : OwnT w' base A c us :=
  ⟨ownsRow_only h.1 a hd, fun t ht => ((h.2 t ht).only a (.inr hd) (Nat.le_refl _)).mono (Nat.le_refl _) a.size⟩
theorem OwnU.only {w w' : World} {lo hi base c : Nat} {A : Option Addr} {us : List UniV} (h : OwnU w base A c us) (a : Only lo hi w w') (hd : hi ≤ base) : OwnU w' base A c us :=
  ⟨ownsRow_only h.row a hd, fun u hu => (h.each u hu).only a hd, h.dist⟩
/-- a unit appended -/
theorem OwnU.snoc {w w' : World} {base c q d : Nat} {A : Option Addr} {us : List UniV} {u : UniV} (h : OwnU w base A c us) (hT : OwnT w base u.a u.c u.ts) (hd : ∀ x, x ∈ us → ∀ g, (bcell (ubin x)).ownBlock = some g → (bcell (ubin u)).ownBlock ≠ some g)
    (hr : w'.ownsRow base 48 2 (.slice (some ⟨q, 0, none⟩) (us.length + 1) d) (us.length + 1) (urowT us ++ ucT u)) (hg : w.grownBy w' (Value.slice A us.length c).ownBlock) (hs : w.heap.size ≤ w'.heap.size) : OwnU w' base (some ⟨q, 0, none⟩) d (us ++ [u]) := by
  have key : ∀ x : UniV, OwnT w base x.a x.c x.ts → OwnT w' base x.a x.c x.ts := fun x hx => hx.grown hg h.row hs (by decide) (fun g h1 h2 => own_ne2 hx.1 h.row (by decide) g h1 h2)
  refine ⟨?_, fun x hx => ?_, ?_⟩
  · rw [List.length_append, urowT_app]; simpa [urowT] using hr
  · rcases List.mem_append.1 hx with h1 | h1
    · exact key x (h.each x h1)
    · simp only [List.mem_singleton] at h1; subst h1; exact key x hT
  · rw [List.map_append]
    exact h.dist.snoc fun x hx => by
      obtain ⟨y, hy, rfl⟩ := List.mem_map.1 hx
      exact hd y hy
theorem grown_set (w : World) (g i : Nat) (v : Value) : w.grownBy (w.setCell ⟨g, i, none⟩ v) (some g) :=
  ⟨rfl, rfl, rfl, by simp [World.setCell], fun _ _ hn => Below.heap_setCell _ _ _ _ (fun e => hn (by rw [e]))⟩
theorem IntsE.far {w : World} {lo hi c g i : Nat} {e t : TypeId} {A : Option Addr} {ys : List Int} {cs : List Value} (h : IntsE e w lo hi A c ys) (hb : Blk w g t cs) (hne : e ≠ t) (v : Value) : IntsE e (w.setCell ⟨g, i, none⟩ v) lo hi A c ys := by
  have key : ∀ b, A.map (·.block) = some b → ys ≠ [] → b ≠ g := fun b hA hy e1 => by
    obtain ⟨cur, z, hc⟩ := h.2 b hA hy
    subst e1
    rw [Blk] at hb
    rw [hb] at hc
    simp only [Option.some.injEq, Obj.cells.injEq] at hc
    exact hne hc.2.1.symm
  refine ⟨h.1.grown (grown_set w g i v) (fun b hA hy e1 => key b hA hy (Option.some.inj e1).symm), fun b hA hy => ?_⟩
  obtain ⟨cur, z, hc⟩ := h.2 b hA hy
  exact ⟨cur, z, by rw [Below.heap_setCell _ _ _ _ (key b hA hy)]; exact hc⟩
/-- a store into a block of another type -/
theorem OwnT.far {w : World} {base c g i : Nat} {t : TypeId} {A : Option Addr} {us : List TaskV} {cs : List Value} (h : OwnT w base A c us) (hb : Blk w g t cs) (h1 : 62 ≠ t) (h2 : 3 ≠ t) (v : Value) : OwnT (w.setCell ⟨g, i, none⟩ v) base A c us :=
  ⟨own_far h.1 (own_ne h.1 hb h1) v, fun x hx => ((h.2 x hx).far hb h2 v).mono (Nat.le_refl _) (by simp [World.setCell])⟩
theorem OwnU.far {w : World} {base c g i : Nat} {t : TypeId} {A : Option Addr} {us : List UniV} {cs : List Value} (h : OwnU w base A c us) (hb : Blk w g t cs) (h1 : 48 ≠ t) (h2 : 62 ≠ t) (h3 : 3 ≠ t) (v : Value) : OwnU (w.setCell ⟨g, i, none⟩ v) base A c us :=
  ⟨own_far h.row (own_ne h.row hb h1) v, fun u hu => (h.each u hu).far hb h2 h3 v, h.dist⟩
end Go.Proofs.Ytcmampicgdobcaa
