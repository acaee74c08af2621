/- The generators of vectors: they return slices of ints in new memory; what the ints are is not asked. No condition but on sizes. -/
import Derived.Test.YtcmampicgdobcaaDr
namespace Go.Proofs.Ytcmampicgdobcaa
open Go.RowKit
theorem Only.then_below {lo hi : Nat} {w w1 w' : World} (a : Only lo hi w w1) (b : Below w.heap.size w1 w') : Only lo hi w w' :=
  ⟨b.os.trans a.os, b.tape.trans a.tape, b.output.trans a.output, Nat.le_trans a.size b.size, fun k hk hn => (b.block k hk).trans (a.block k hk hn)⟩
theorem Only.setCell' {lo hi : Nat} {w w' : World} (a : Only lo hi w w') {p : Addr} (h1 : w.heap.size ≤ p.block) (u : Value) : Only lo hi w (w'.setCell p u) :=
  ⟨a.os, a.tape, a.output, by simpa [World.setCell] using a.size, fun k hk hn => (Below.heap_setCell _ _ _ _ (by omega)).trans (a.block k hk hn)⟩
theorem own_cells {w : World} {base e g n cap : Nat} {cs : List Int} (h : w.ownsRow base e 1 (.slice (some ⟨g, 0, none⟩) n cap) n (cs.map (Value.int .i64))) (_hn : 0 < n) : base ≤ g ∧ g < w.heap.size ∧ n ≤ cap ∧ cap ≤ maxLen := by
  rcases h.2 with ⟨h, _⟩ | ⟨g', cap', cur, he, hb, hg, h1, h2, _⟩
  · simp at h
  · simp only [Value.slice.injEq, Option.some.injEq, Addr.mk.injEq, and_true, true_and] at he
    obtain ⟨rfl, rfl⟩ := he
    exact ⟨hb, (Array.getElem?_eq_some_iff.1 hg).1, h1, h2⟩
theorem Ints.take {w : World} {lo hi c : Nat} {A : Option Addr} {ys : List Int} (h : Ints w lo hi A c ys) (m : Nat) : Ints w lo hi A c (ys.take m) := by
  refine ⟨by have := h.1; simp; omega, h.2.1, ?_⟩
  rcases h.2.2 with h | ⟨b, off, h1, h2, h3, h4⟩
  · exact .inl (by simp [h])
  · refine .inr ⟨b, off, h1, h2, h3, fun j y hj => h4 j y ?_⟩
    rw [List.getElem?_take] at hj
    split at hj
    · exact hj
    · cases hj
/-- the cells of a literal of three ints that was laid ahead of a call which changes block g alone -/
theorem lit3 {w w' : World} {g : Nat} {e : TypeId} {a b c : Int} (h : Only g (g + 1) (w.alloc (.cells #[.int .i64 a, .int .i64 b, .int .i64 c] e)) w') (hg : g < w.heap.size) {i : Nat} (hi : i < 3) :
    ∃ l : Int, w'.cell? ⟨w.heap.size, i, none⟩ = some (.int .i64 l) ∧ (l = a ∨ l = b ∨ l = c) := by
  have hb := h.block w.heap.size (by simp) (by omega)
  have e0 : w'.cell? ⟨w.heap.size, i, none⟩ = (w.alloc (.cells #[.int .i64 a, .int .i64 b, .int .i64 c] e)).cell? ⟨w.heap.size, i, none⟩ := World.cell?_of_block (w := w.alloc (.cells #[.int .i64 a, .int .i64 b, .int .i64 c] e)) (a := ⟨w.heap.size, i, none⟩) hb
  rw [e0, World.cell?_alloc_at _ _ _ _ rfl]
  match i, hi with
  | 0, _ => exact ⟨a, rfl, .inl rfl⟩
  | 1, _ => exact ⟨b, rfl, .inr (.inl rfl)⟩
  | 2, _ => exact ⟨c, rfl, .inr (.inr rfl)⟩
/-- what a generator of one vector leaves -/
def DrewI (w : World) (g p : Nat) (e : Ending) (w' : World) : Prop :=
  ∃ A c, ∃ zs : List Int, ∃ p', e = .returned (.slice A zs.length c) ∧ Ints w' w.heap.size w'.heap.size A c zs ∧ zs.length ≤ 3 ∧ (∀ z, z ∈ zs → -1 ≤ z ∧ z ≤ 100) ∧ Rd w' g p' ∧ p ≤ p' ∧ p' ≤ p + 6 ∧ Only g (g + 1) w w'
theorem l6Open_any (A : Option Addr) (n c : Nat) (w : World) (hA : BytesR w w.heap.size A n) (hc : n ≤ c) (hm : c ≤ maxLen) :
    Calls Try.prog 15 #[.slice A n c] w fun e w' => ∃ g, e = .returned (.pointer (some ⟨g, 0, none⟩)) ∧ w.heap.size ≤ g ∧ Rd w' g 0 ∧ Below w.heap.size w w' := by
  have HA := Lib.hid hA; clear hA
  have hm' : c ≤ 9223372036854775807 := by simpa [maxLen] using hm
  clear hm
  have fin : ∀ m, m ≤ n → m ≤ 2000 → Rd (w.alloc (.cells #[.slice A m c, .int .i64 0] 60)) w.heap.size 0 := by
    intro m h1 h2
    refine ⟨A, m, c, ?_, ?_, ?_, (HA.out.less h1).below ((Below.refl w.heap.size w).alloc (Nat.le_refl _) _) (Nat.le_refl _), h2⟩
    · rw [World.cell?_alloc_at _ _ _ _ rfl]; rfl
    · rw [World.cell?_alloc_at _ _ _ _ rfl]; rfl
    · exact World.frozen?_alloc_at _ _ _ _ rfl
  have HF := Lib.hid fin; clear fin
  by_cases hn : 2000 < n
  · have hc2 : 2000 ≤ c := by omega
    go_enter Try.func15, Try.ntmps15
    go_wp2
    go_ret
    exact ⟨w.heap.size, by simp, Nat.le_refl _, HF.out 2000 (by omega) (by omega), (Below.refl _ _).alloc (Nat.le_refl _) _⟩
  · go_enter Try.func15, Try.ntmps15
    go_wp2
    go_ret
    exact ⟨w.heap.size, by simp, Nat.le_refl _, HF.out n (by omega) (by omega), (Below.refl _ _).alloc (Nat.le_refl _) _⟩
