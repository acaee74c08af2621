/- Contracts of the statements' own helpers over slices of ints: copy, compare, mark. No condition but on sizes. -/
import Derived.Test.YtcmampicgdobcaaVb
namespace Go.Proofs.Ytcmampicgdobcaa
open Go.RowKit
/-- a list that is being filled: the first k are the result's -/
def FillN (z cs : List Int) (k : Nat) : Prop := cs.length = z.length ∧ ∀ j, j < k → cs[j]? = z[j]?
theorem FillN.start {z cs : List Int} (h : cs.length = z.length) : FillN z cs 0 := ⟨h, fun j hj => by omega⟩
theorem FillN.next {z cs : List Int} {k : Nat} {x : Int} (h : FillN z cs k) (hx : z[k]? = some x) : FillN z (cs.set k x) (k + 1) := by
  have hk : k < z.length := (List.getElem?_eq_some_iff.1 hx).1
  refine ⟨by simp [h.1], fun j hj => ?_⟩
  by_cases hjk : j = k
  · subst hjk; rw [hx, List.getElem?_set_self (by rw [h.1]; exact hk)]
  · rw [List.getElem?_set_ne (by omega)]; exact h.2 j (by omega)
theorem FillN.done {z cs : List Int} {k : Nat} (h : FillN z cs k) (hk : z.length ≤ k) : cs = z := by
  apply List.ext_getElem?
  intro j
  by_cases hj : j < z.length
  · exact h.2 j (by omega)
  · rw [List.getElem?_eq_none (by rw [h.1]; omega), List.getElem?_eq_none (by omega)]
/-- a slice of ints in new memory is returned -/
def RetI (w : World) (zs : List Int) (e : Ending) (w' : World) : Prop :=
  ∃ A c, e = .returned (.slice A zs.length c) ∧ Ints w' w.heap.size w'.heap.size A c zs ∧ Below w.heap.size w w'
theorem madeCells_ints (n : Nat) : (madeCells (Value.int .i64 0).cells n).toList = (List.replicate n (0 : Int)).map (Value.int .i64) := by
  rw [show (Value.int .i64 0).cells = #[.int .i64 0] from rfl, toList_madeCells_one]; simp
theorem Ints.set {w : World} {lo hi b off c : Nat} {cs : List Int} (h : Ints w lo hi (some ⟨b, off, none⟩) c cs) {k : Nat} (hk : k < cs.length) (x : Int) :
    Ints (w.setCell ⟨b, off + k, none⟩ (.int .i64 x)) lo hi (some ⟨b, off, none⟩) c (cs.set k x) := by
  obtain ⟨b', off', e, h1, h2, h3⟩ := h.form (by omega)
  simp only [Option.some.injEq, Addr.mk.injEq, and_true] at e
  obtain ⟨rfl, rfl⟩ := e
  refine ⟨by simpa using h.1, h.2.1, .inr ⟨b, off, rfl, h1, h2, fun j y hy => ?_⟩⟩
  have hj : j < cs.length := by have := (List.getElem?_eq_some_iff.1 hy).1; simpa using this
  have hold := h3 j _ (List.getElem?_eq_getElem hj)
  have hfz : (w.setCell ⟨b, off + k, none⟩ (.int .i64 x)).frozen? ⟨b, off + j, none⟩ = w.frozen? ⟨b, off + j, none⟩ := World.frozen?_setCell _ _ _ _
  refine ⟨?_, by rw [hfz]; exact hold.2⟩
  by_cases hjk : j = k
  · subst hjk
    rw [List.getElem?_set_self hj] at hy
    obtain rfl := Option.some.inj hy
    exact World.cell?_setCell_same w _ _ hold.1
  · rw [List.getElem?_set_ne (by omega)] at hy
    rw [World.cell?_setCell_other _ _ _ _ (by intro h; simp only [Addr.mk.injEq] at h; omega)]
    exact (h3 j y hy).1
theorem drawn_below {w w' : World} (h : ∃ n, w' = w.drewN n) : Below w.heap.size w w' := by
  obtain ⟨n, rfl⟩ := h
  exact Below.drewN (Below.refl _ _) n
theorem ints_lit3 (w : World) (e : TypeId) (a b c : Int) : Ints (w.alloc (.cells #[.int .i64 a, .int .i64 b, .int .i64 c] e)) 0 (w.alloc (.cells #[.int .i64 a, .int .i64 b, .int .i64 c] e)).heap.size (some ⟨w.heap.size, 0, none⟩) 3 [a, b, c] := by
  obtain ⟨A, c', he, _, hI⟩ := Ints.of_own (ys := [a, b, c]) (World.ownsRow_lit w #[.int .i64 a, .int .i64 b, .int .i64 c] (e := e) (size := 1) 3 (Nat.le_refl _) (by simp [maxLen]) rfl)
  simp only [Value.slice.injEq] at he
  obtain ⟨rfl, _, rfl⟩ := he
  exact hI.mono (Nat.zero_le _) (Nat.le_refl _)
theorem Ints.len {w : World} {lo hi c : Nat} {A : Option Addr} {ys : List Int} (h : Ints w lo hi A c ys) : ys.length ≤ c := h.1
/-- the marks that markIntS writes -/
def marks (k : Int) (n : Nat) : List Int := (List.range n).map fun (i : Nat) => k + (i : Int)
theorem marks_len (k : Int) (n : Nat) : (marks k n).length = n := by simp [marks]
theorem marks_at {k : Int} {n j : Nat} (h : j < n) : (marks k n)[j]? = some (k + j) := by simp [marks, h]
theorem sameInts_eq (A B : Option Addr) (c d lo hi lo' hi' : Nat) (ys : List Int) (w : World) (hA : Ints w lo hi A c ys) (hB : Ints w lo' hi' B d ys) (hl : ys.length ≤ 2097152) :
    Calls Try.prog 10 #[.slice A ys.length c, .slice B ys.length d] w fun e w' => e = .returned (.bool true) ∧ ∃ n, w' = w.drewN n := by
  have HA := Lib.hid hA; clear hA
  have HB := Lib.hid hB; clear hB
  go_enter Try.func10, Try.ntmps10
  go_wp2_with fail
  go_loopw [5] (fun i wr => ∃ k n : Nat, k ≤ ys.length ∧ i = .int .i64 k ∧ wr = w.drewN n) (fun i _ => ys.length - (intOf i).toNat)
  case atStart => exact ⟨0, 0, by omega, rfl, rfl⟩
  case round =>
    obtain ⟨k, n, hk, rfl, rfl⟩ := hrel
    by_cases hlt : k < ys.length
    · obtain ⟨p, off, x, rfl, hx, hc, _, _, _⟩ := HA.out.at_ (k := k) hlt
      obtain ⟨p', off', y, rfl, hy, hc', _, _, _⟩ := HB.out.at_ (k := k) hlt
      obtain rfl : x = y := by rw [hx] at hy; exact Option.some.inj hy
      clear hx hy
      go_wp2_with fail
      go_quiet (fail)
      go_wp2
      go_roundw
      case rel => exact ⟨k + 1, _, by omega, by go_num, rfl⟩
      case measure => simp [intOf]; omega
    · go_wp2
      go_ret
      exact ⟨rfl, _, rfl⟩
