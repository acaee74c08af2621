/- Contracts of the statements' own helpers over slices of ints: copy, compare, mark. No condition but on sizes. -/
import Derived.Test.YtojbljaleconpaaDoorVb
namespace Go.Proofs.YtojbljaleconpaaDoor
open Go.RowKit
/-- a list that is being filled: the first k are the result's -/
def FillN (z cs : List Int) (k : Nat) : Prop := cs.length = z.length ∧ ∀ j, j < k → cs[j]? = z[j]?
theorem FillN.start {z cs : List Int} (h : cs.length = z.length) : FillN z cs 0 := ⟨h, fun j hj => by omega⟩
theorem FillN.next {z cs : List Int} {k : Nat} {x : Int} (h : FillN z cs k) (hx : z[k]? = some x) : FillN z (cs.set k x) (k + 1) := by
  have hk : k < z.length := (List.getElem?_eq_some_iff.1 hx).1
  refine ⟨by simp [h.1], fun j hj => ?_⟩
  by_cases hjk : j = k
  · subst hjk; rw [hx, List.getElem?_set_self (by rw [h.1]; exact hk)]
  · rw [List.getElem?_set_ne (by omega)]; exact h.2 j (by omega)
theorem FillN.done {z cs : List Int} {k : Nat} (h : FillN z cs k) (hk : z.length ≤ k) : cs = z := by
  apply List.ext_getElem?
  intro j
  by_cases hj : j < z.length
  · exact h.2 j (by omega)
  · rw [List.getElem?_eq_none (by rw [h.1]; omega), List.getElem?_eq_none (by omega)]
/-- a slice of ints in new memory is returned -/
def RetI (w : World) (zs : List Int) (e : Ending) (w' : World) : Prop :=
  ∃ A c, e = .returned (.slice A zs.length c) ∧ Ints w' w.heap.size w'.heap.size A c zs ∧ Below w.heap.size w w'
theorem madeCells_ints (n : Nat) : (madeCells (Value.int .i64 0).cells n).toList = (List.replicate n (0 : Int)).map (Value.int .i64) := by
  rw [show (Value.int .i64 0).cells = #[.int .i64 0] from rfl, toList_madeCells_one]; simp
theorem Ints.set {w : World} {lo hi b off c : Nat} {cs : List Int} (h : Ints w lo hi (some ⟨b, off, none⟩) c cs) {k : Nat} (hk : k < cs.length) (x : Int) :
    Ints (w.setCell ⟨b, off + k, none⟩ (.int .i64 x)) lo hi (some ⟨b, off, none⟩) c (cs.set k x) := by
  obtain ⟨b', off', e, h1, h2, h3⟩ := h.form (by omega)
  simp only [Option.some.injEq, Addr.mk.injEq, and_true] at e
  obtain ⟨rfl, rfl⟩ := e
  refine ⟨by simpa using h.1, h.2.1, .inr ⟨b, off, rfl, h1, h2, fun j y hy => ?_⟩⟩
  have hj : j < cs.length := by have := (List.getElem?_eq_some_iff.1 hy).1; simpa using this
  have hold := h3 j _ (List.getElem?_eq_getElem hj)
  have hfz : (w.setCell ⟨b, off + k, none⟩ (.int .i64 x)).frozen? ⟨b, off + j, none⟩ = w.frozen? ⟨b, off + j, none⟩ := World.frozen?_setCell _ _ _ _
  refine ⟨?_, by rw [hfz]; exact hold.2⟩
  by_cases hjk : j = k
  · subst hjk
    rw [List.getElem?_set_self hj] at hy
    obtain rfl := Option.some.inj hy
    exact World.cell?_setCell_same w _ _ hold.1
  · rw [List.getElem?_set_ne (by omega)] at hy
    rw [World.cell?_setCell_other _ _ _ _ (by intro h; simp only [Addr.mk.injEq] at h; omega)]
    exact (h3 j y hy).1
theorem drawn_below {w w' : World} (h : ∃ n, w' = w.drewN n) : Below w.heap.size w w' := by
  obtain ⟨n, rfl⟩ := h
  exact Below.drewN (Below.refl _ _) n
theorem ints_lit3 (w : World) (e : TypeId) (a b c : Int) : Ints (w.alloc (.cells #[.int .i64 a, .int .i64 b, .int .i64 c] e)) 0 (w.alloc (.cells #[.int .i64 a, .int .i64 b, .int .i64 c] e)).heap.size (some ⟨w.heap.size, 0, none⟩) 3 [a, b, c] := by
  obtain ⟨A, c', he, _, hI⟩ := Ints.of_own (ys := [a, b, c]) (World.ownsRow_lit w #[.int .i64 a, .int .i64 b, .int .i64 c] (e := e) (size := 1) 3 (Nat.le_refl _) (by simp [maxLen]) rfl)
  simp only [Value.slice.injEq] at he
  obtain ⟨rfl, _, rfl⟩ := he
  exact hI.mono (Nat.zero_le _) (Nat.le_refl _)
theorem Ints.len {w : World} {lo hi c : Nat} {A : Option Addr} {ys : List Int} (h : Ints w lo hi A c ys) : ys.length ≤ c := h.1
/-- the marks that markIntS writes -/
def marks (k : Int) (n : Nat) : List Int := (List.range n).map fun (i : Nat) => k + (i : Int)
theorem marks_len (k : Int) (n : Nat) : (marks k n).length = n := by simp [marks]
theorem marks_at {k : Int} {n j : Nat} (h : j < n) : (marks k n)[j]? = some (k + j) := by simp [marks, h]
theorem toIntS_any (A : Option Addr) (c hi : Nat) (ys : List Int) (w : World) (hA : IntsR w hi A ys) (hl : ys.length ≤ 1048576) (h1 : hi ≤ w.heap.size) :
    Calls Tryd.prog 6 #[.slice A ys.length c] w (RetI w ys) := by
  have HA := Lib.hid hA; clear hA
  obtain ⟨i0, z0, hi0, hz0, hz1, hz2, _⟩ := elI.info
  have hmk : ∀ W : World, (Instr.makeSlice 22 (.int .i64 (ys.length : Int)) (.int .i64 (ys.length : Int))).run Tryd.prog W = .ok (.slice (some ⟨W.heap.size, 0, none⟩) ys.length ys.length) (W.alloc (.cells (madeCells (Value.int .i64 0).cells ys.length) 3)) := by
    intro W
    obtain ⟨i1, j1, j2, j3, j4⟩ := info_parts (P := Tryd.prog) (e := 3) (z := .int .i64 0) (size := 1) (bytes := 8) (by kernel_rfl)
    have := run_make (P := Tryd.prog) W 22 3 i1 (.int .i64 0) Tryd.underlying22 j1 j2 .i64 .i64 (ys.length : Int) (ys.length : Int) (by omega) (Int.le_refl _) (by rw [j4]; omega) (by omega)
    rw [j3] at this
    simpa using this
  clear hi0 hz0 hz1 hz2
  go_enter Tryd.func6, Tryd.ntmps6
  go_wp2_with fail
  clear hmk
  go_loopw [4] (fun i wr => ∃ k : Nat, ∃ cs : List Int, k ≤ ys.length ∧ i = .int .i64 k ∧ wr.ownsRow w.heap.size 3 1 (.slice (some ⟨w.heap.size, 0, none⟩) ys.length ys.length) ys.length (cs.map (Value.int .i64)) ∧ FillN ys cs k ∧ Below w.heap.size w wr) (fun i _ => ys.length - (intOf i).toNat)
  case atStart =>
    refine ⟨0, List.replicate ys.length 0, by omega, rfl, ?_, FillN.start (by simp), (Below.refl _ _).alloc (Nat.le_refl _) _⟩
    rw [← madeCells_ints]
    exact World.ownsRow_lit w _ _ (Nat.le_refl _) (by simp only [maxLen]; omega) (by simp [size_madeCells])
  case round =>
    obtain ⟨k, cs, hk, rfl, hown, hfill, hbl⟩ := hrel
    have HO := Lib.hid hown; clear hown
    have HBl := Lib.hid hbl; clear hbl
    have HF := Lib.hid hfill; clear hfill
    by_cases hlt : k < ys.length
    · obtain ⟨p, off, x, rfl, hx, hc, hp⟩ := (HA.out.below HBl.out h1).at_ (k := k) hlt
      obtain ⟨u, _, hc0, hf0⟩ := own_at HO.out hlt
      have HX := Lib.hid hx
      clear hx
      go_wp2
      go_roundw
      case rel => exact ⟨k + 1, _, by omega, by go_num, own_set HO.out k x, HF.out.next HX.out, HBl.out.setCell (p := ⟨w.heap.size, k, none⟩) (Nat.le_refl _) _⟩
      case measure => simp [intOf]; omega
    · have hO := HO.out
      rw [HF.out.done (by omega)] at hO
      obtain ⟨A', c', he, hl, hI⟩ := Ints.of_own hO
      have HE := Lib.hid he
      have HI := Lib.hid hI
      clear hO he hl hI
      go_wp2
      go_ret
      exact ⟨A', c', by simpa using HE.out, HI.out, HBl.out⟩
theorem eqIntS_eq (A B : Option Addr) (c d lo hi lo' hi' : Nat) (ys : List Int) (w : World) (hA : Ints w lo hi A c ys) (hB : Ints w lo' hi' B d ys) (hl : ys.length ≤ 2097152) :
    Calls Tryd.prog 8 #[.slice A ys.length c, .slice B ys.length d] w fun e w' => e = .returned (.bool true) ∧ ∃ n, w' = w.drewN n := by
  have HA := Lib.hid hA; clear hA
  have HB := Lib.hid hB; clear hB
  go_enter Tryd.func8, Tryd.ntmps8
  go_wp2_with fail
  go_loopw [5] (fun i wr => ∃ k n : Nat, k ≤ ys.length ∧ i = .int .i64 k ∧ wr = w.drewN n) (fun i _ => ys.length - (intOf i).toNat)
  case atStart => exact ⟨0, 0, by omega, rfl, rfl⟩
  case round =>
    obtain ⟨k, n, hk, rfl, rfl⟩ := hrel
    by_cases hlt : k < ys.length
    · obtain ⟨p, off, x, rfl, hx, hc, _, _, _⟩ := HA.out.at_ (k := k) hlt
      obtain ⟨p', off', y, rfl, hy, hc', _, _, _⟩ := HB.out.at_ (k := k) hlt
      obtain rfl : x = y := by rw [hx] at hy; exact Option.some.inj hy
      clear hx hy
      go_wp2_with fail
      go_quiet (fail)
      go_wp2
      go_roundw
      case rel => exact ⟨k + 1, _, by omega, by go_num, rfl⟩
      case measure => simp [intOf]; omega
    · go_wp2
      go_ret
      exact ⟨rfl, _, rfl⟩
