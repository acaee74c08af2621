/- The words on memory that all proofs of this seat use: a slice of ints that reads as a list; what a call may change. No condition. -/
import Derived.WalkKit
import Derived.Deep.QuietTactic
import Derived.BigQuiet
import Derived.Lib.Hide
import Derived.Deep.Draws
namespace Go.Proofs.Ytcmampicgdobcaa
open Go.RowKit

/-- a slice of ints: its cells lie in one block between `lo` and `hi` and hold `ys` -/
def Ints (w : World) (lo hi : Nat) (A : Option Addr) (c : Nat) (ys : List Int) : Prop :=
  ys.length ≤ c ∧ c ≤ maxLen ∧ (ys = [] ∨ ∃ b off, A = some ⟨b, off, none⟩ ∧ lo ≤ b ∧ b < hi ∧
    ∀ j y, ys[j]? = some y → w.cell? ⟨b, off + j, none⟩ = some (.int .i64 y) ∧ w.frozen? ⟨b, off + j, none⟩ = false)

section
variable {w w' : World} {lo hi lo' hi' B c : Nat} {A : Option Addr} {ys : List Int}
theorem Ints.form (h : Ints w lo hi A c ys) (hk : 0 < ys.length) :
    ∃ b off, A = some ⟨b, off, none⟩ ∧ lo ≤ b ∧ b < hi ∧
    ∀ j y, ys[j]? = some y → w.cell? ⟨b, off + j, none⟩ = some (.int .i64 y) ∧ w.frozen? ⟨b, off + j, none⟩ = false := by
  rcases h.2.2 with rfl | h
  · simp at hk
  · exact h
theorem Ints.at_ (h : Ints w lo hi A c ys) {k : Nat} (hk : k < ys.length) :
    ∃ b off y, A = some ⟨b, off, none⟩ ∧ ys[k]? = some y ∧ w.cell? ⟨b, off + k, none⟩ = some (.int .i64 y) ∧ w.frozen? ⟨b, off + k, none⟩ = false ∧ lo ≤ b ∧ b < hi := by
  obtain ⟨b, off, h1, h2, h3, h4⟩ := h.form (by omega)
  have hy : ys[k]? = some ys[k] := List.getElem?_eq_getElem hk
  exact ⟨b, off, _, h1, hy, (h4 _ _ hy).1, (h4 _ _ hy).2, h2, h3⟩
theorem Ints.keep (h : Ints w lo hi A c ys)
    (hk : ∀ p : Addr, lo ≤ p.block → p.block < hi → w'.cell? p = w.cell? p ∧ w'.frozen? p = w.frozen? p) : Ints w' lo hi A c ys := by
  refine ⟨h.1, h.2.1, ?_⟩
  rcases h.2.2 with h | ⟨b, off, h1, h2, h3, h4⟩
  · exact .inl h
  · refine .inr ⟨b, off, h1, h2, h3, fun j y hj => ?_⟩
    obtain ⟨k1, k2⟩ := hk ⟨b, off + j, none⟩ h2 h3
    rw [k1, k2]; exact h4 j y hj
theorem Ints.below (h : Ints w lo hi A c ys) (hb : Below B w w') (hB : hi ≤ B) : Ints w' lo hi A c ys :=
  h.keep fun _ _ h2 => ⟨hb.cell (by omega), hb.frozen (by omega)⟩
theorem Ints.drewN (h : Ints w lo hi A c ys) (n : Nat) : Ints (w.drewN n) lo hi A c ys := h
theorem Ints.mono (h : Ints w lo hi A c ys) (h1 : lo' ≤ lo) (h2 : hi ≤ hi') : Ints w lo' hi' A c ys := by
  refine ⟨h.1, h.2.1, ?_⟩
  rcases h.2.2 with h | ⟨b, off, g1, g2, g3, g4⟩
  · exact .inl h
  · exact .inr ⟨b, off, g1, by omega, by omega, g4⟩
/-- carried over a call that only makes new memory -/
theorem Ints.step (h : Ints w lo w.heap.size A c ys) (hb : Below w.heap.size w w') : Ints w' lo w'.heap.size A c ys :=
  (h.below hb (Nat.le_refl _)).mono (Nat.le_refl _) hb.size
theorem Ints.up (h : Ints w lo hi A c ys) (hb : Below w.heap.size w w') (h1 : hi ≤ w.heap.size) : Ints w' lo hi A c ys := h.below hb h1
theorem Ints.of_own {base e : Nat} {v : Value} {n : Nat} (h : w.ownsRow base e 1 v n (ys.map (Value.int .i64))) :
    ∃ A c, v = .slice A ys.length c ∧ n = ys.length ∧ Ints w base w.heap.size A c ys := by
  have hn : n = ys.length := by have := h.1; simpa using this.symm
  subst hn
  rcases h.2 with ⟨rfl, h0⟩ | ⟨g, cap, cur, rfl, hb, hg, hnc, hcm, _, htake⟩
  · have : ys = [] := List.eq_nil_of_length_eq_zero h0
    subst this
    exact ⟨none, 0, rfl, rfl, by simp, by simp [maxLen], .inl rfl⟩
  · refine ⟨_, _, rfl, rfl, hnc, hcm, .inr ⟨g, 0, rfl, hb, (Array.getElem?_eq_some_iff.1 hg).1, fun j y hj => ?_⟩⟩
    have hjl : j < ys.length := (List.getElem?_eq_some_iff.1 hj).1
    constructor
    · rw [Nat.zero_add, h.cellAt j (by omega), List.getElem?_map, hj]; rfl
    · exact h.frozenAt _
theorem Below.drewN {a : World} (h : Below B a w) (n : Nat) : Below B a (w.drewN n) := ⟨h.os, h.tape, h.output, h.size, h.block⟩
theorem Below.step {a : World} (h : Below a.heap.size a w) (h' : Below w.heap.size w w') : Below a.heap.size a w' := h.trans (h'.mono h.size)
end

/-- a slice of ints that is only read: as `Ints`, nothing said of the frozen marks -/
def IntsR (w : World) (hi : Nat) (A : Option Addr) (ys : List Int) : Prop :=
  ys = [] ∨ ∃ b off, A = some ⟨b, off, none⟩ ∧ b < hi ∧ ∀ j y, ys[j]? = some y → w.cell? ⟨b, off + j, none⟩ = some (.int .i64 y)
/-- a slice of bytes that is only read -/
def BytesR (w : World) (hi : Nat) (A : Option Addr) (n : Nat) : Prop :=
  n = 0 ∨ ∃ b off, A = some ⟨b, off, none⟩ ∧ b < hi ∧ ∀ j, j < n → ∃ u : Int, 0 ≤ u ∧ u ≤ 255 ∧ w.cell? ⟨b, off + j, none⟩ = some (.int .u8 u)
/-- what a walk is told of a slice of integers that came in: nil, or a row of `cap` cells -/
def IsRow (k : IntKind) (w : World) (a : Option Addr) (len cap : Nat) (zs : List Int) : Prop :=
  (a = none ∧ len = 0 ∧ cap = 0 ∧ zs = []) ∨
  ∃ x, a = some x ∧ len ≤ cap ∧ cap ≤ maxLen ∧ zs.length = cap ∧ (∀ i, i < zs.length → w.cell? (x.add i) = some (.int k (zs.getD i 0))) ∧ ∀ n ∈ zs, (Lit.int k n).wf = true
section
variable {w w' : World} {hi hi' B c n : Nat} {A : Option Addr} {ys : List Int}
theorem IntsR.at_ (h : IntsR w hi A ys) {k : Nat} (hk : k < ys.length) :
    ∃ b off y, A = some ⟨b, off, none⟩ ∧ ys[k]? = some y ∧ w.cell? ⟨b, off + k, none⟩ = some (.int .i64 y) ∧ b < hi := by
  rcases h with rfl | ⟨b, off, h1, h3, h4⟩
  · simp at hk
  · have hy : ys[k]? = some ys[k] := List.getElem?_eq_getElem hk
    exact ⟨b, off, _, h1, hy, h4 _ _ hy, h3⟩
theorem IntsR.below (h : IntsR w hi A ys) (hb : Below B w w') (hB : hi ≤ B) : IntsR w' hi A ys := by
  rcases h with h | ⟨b, off, h1, h3, h4⟩
  · exact .inl h
  · exact .inr ⟨b, off, h1, h3, fun j y hj => by rw [hb.cell (show b < B by omega)]; exact h4 j y hj⟩
theorem Ints.r {lo : Nat} (h : Ints w lo hi A c ys) : IntsR w hi A ys := by
  rcases h.2.2 with h | ⟨b, off, h1, _, h3, h4⟩
  · exact .inl h
  · exact .inr ⟨b, off, h1, h3, fun j y hj => (h4 j y hj).1⟩
theorem BytesR.below (h : BytesR w hi A n) (hb : Below B w w') (hB : hi ≤ B) : BytesR w' hi A n := by
  rcases h with h | ⟨b, off, h1, h3, h4⟩
  · exact .inl h
  · refine .inr ⟨b, off, h1, h3, fun j hj => ?_⟩
    obtain ⟨u, u1, u2, u3⟩ := h4 j hj
    exact ⟨u, u1, u2, by rw [hb.cell (show b < B by omega)]; exact u3⟩
theorem BytesR.mono (h : BytesR w hi A n) (h1 : hi ≤ hi') : BytesR w hi' A n := by
  rcases h with h | ⟨b, off, h2, h3, h4⟩
  · exact .inl h
  · exact .inr ⟨b, off, h2, by omega, h4⟩
theorem BytesR.less {m : Nat} (h : BytesR w hi A n) (h1 : m ≤ n) : BytesR w hi A m := by
  rcases h with h | ⟨b, off, h2, h3, h4⟩
  · exact .inl (by omega)
  · exact .inr ⟨b, off, h2, by omega, fun j hj => h4 j (by omega)⟩
theorem row_spot {k : IntKind} {x : Addr} {zs : List Int} (hc : ∀ i, i < zs.length → w.cell? (x.add i) = some (.int k (zs.getD i 0))) (h0 : 0 < zs.length) :
    ∃ b off, x = ⟨b, off, none⟩ ∧ b < w.heap.size ∧ ∀ i, i < zs.length → w.cell? ⟨b, off + i, none⟩ = some (.int k (zs.getD i 0)) := by
  obtain ⟨b, off, spot⟩ := x
  have h := hc 0 h0
  have hspot : spot = none := by simpa [Addr.add] using World.cell?_spot h
  subst hspot
  refine ⟨b, off, rfl, ?_, fun i hi => ?_⟩
  · have := World.block_lt_of_cell? w _ h
    simpa [Addr.add] using this
  · have := hc i hi
    rwa [show ((⟨b, off, none⟩ : Addr).add i) = ⟨b, off + i, none⟩ by unfold Addr.add; split <;> simp_all] at this
theorem ints_of_row {len cap : Nat} {zs : List Int} (h : IsRow .i64 w A len cap zs) : ∃ ys : List Int, ys.length = len ∧ IntsR w w.heap.size A ys ∧ ∀ y, y ∈ ys → (Lit.int .i64 y).wf = true := by
  rcases h with ⟨rfl, rfl, rfl, rfl⟩ | ⟨x, rfl, h1, h2, h3, h4, h5⟩
  · exact ⟨[], rfl, .inl rfl, by simp⟩
  · refine ⟨zs.take len, by simp; omega, ?_, fun y hy => h5 y (List.mem_of_mem_take hy)⟩
    by_cases h0 : len = 0
    · exact .inl (by simp [h0])
    · obtain ⟨b, off, rfl, hb, hc⟩ := row_spot h4 (by omega)
      refine .inr ⟨b, off, rfl, hb, fun j y hj => ?_⟩
      rw [List.getElem?_take] at hj
      split at hj
      · rw [hc j (by omega), List.getD, hj]; rfl
      · cases hj
theorem bytes_of_row {len cap : Nat} {zs : List Int} (h : IsRow .u8 w A len cap zs) : BytesR w w.heap.size A len ∧ len ≤ cap ∧ cap ≤ maxLen := by
  rcases h with ⟨rfl, rfl, rfl, rfl⟩ | ⟨x, rfl, h1, h2, h3, h4, h5⟩
  · exact ⟨.inl rfl, Nat.le_refl _, by simp [maxLen]⟩
  · refine ⟨?_, h1, h2⟩
    by_cases h0 : len = 0
    · exact .inl h0
    · obtain ⟨b, off, rfl, hb, hc⟩ := row_spot h4 (by omega)
      refine .inr ⟨b, off, rfl, hb, fun j hj => ⟨_, ?_, ?_, hc j (by omega)⟩⟩
      all_goals
        have hm : zs.getD j 0 ∈ zs := by
          rw [List.getD, List.getElem?_eq_getElem (by omega : j < zs.length)]
          exact List.getElem_mem _
        have := h5 _ hm
        simp [Lit.wf, IntKind.min, IntKind.max, IntKind.signed, IntKind.bits] at this
        simp only [List.getD] at *
        omega
end

/-- only blocks from `lo` on, below `hi`, have changed of what was there -/
structure Only (lo hi : Nat) (w w' : World) : Prop where
  os : w'.os = w.os
  tape : w'.tape = w.tape
  output : w'.output = w.output
  size : w.heap.size ≤ w'.heap.size
  block : ∀ k, k < w.heap.size → (k < lo ∨ hi ≤ k) → w'.heap[k]? = w.heap[k]?
section
variable {w w' w'' : World} {lo hi lo' hi' l h B c : Nat} {A : Option Addr} {ys : List Int}
theorem Only.refl (lo hi : Nat) (w : World) : Only lo hi w w := ⟨rfl, rfl, rfl, Nat.le_refl _, fun _ _ _ => rfl⟩
theorem Only.trans (a : Only lo hi w w') (b : Only lo hi w' w'') : Only lo hi w w'' :=
  ⟨b.os.trans a.os, b.tape.trans a.tape, b.output.trans a.output, Nat.le_trans a.size b.size, fun k hk hn => (b.block k (Nat.lt_of_lt_of_le hk a.size) hn).trans (a.block k hk hn)⟩
theorem Only.mono (a : Only lo hi w w') (h1 : lo' ≤ lo) (h2 : hi ≤ hi') : Only lo' hi' w w' :=
  ⟨a.os, a.tape, a.output, a.size, fun k hk hn => a.block k hk (by omega)⟩
theorem Only.of_below (a : Below w.heap.size w w') : Only lo hi w w' := ⟨a.os, a.tape, a.output, a.size, fun k hk _ => a.block k hk⟩
theorem Only.drewN (a : Only lo hi w w') (n : Nat) : Only lo hi w (w'.drewN n) := ⟨a.os, a.tape, a.output, a.size, a.block⟩
theorem Only.drew (a : Only lo hi w w') : Only lo hi w w'.drew := ⟨a.os, a.tape, a.output, a.size, a.block⟩
theorem Only.setCell (a : Only lo hi w w') {p : Addr} (h1 : lo ≤ p.block) (h2 : p.block < hi) (u : Value) : Only lo hi w (w'.setCell p u) :=
  ⟨a.os, a.tape, a.output, by simpa [World.setCell] using a.size, fun k hk hn => (Below.heap_setCell _ _ _ _ (by omega)).trans (a.block k hk hn)⟩
/-- what the call made is above all that was there -/
theorem Only.below (a : Only lo hi w w') (h1 : B ≤ lo) (h2 : B ≤ w.heap.size) : Below B w w' :=
  ⟨a.os, a.tape, a.output, a.size, fun k hk => a.block k (by omega) (by omega)⟩
theorem Only.fresh (a : Only lo hi w w') (h1 : w.heap.size ≤ lo) : Below w.heap.size w w' := a.below h1 (Nat.le_refl _)
theorem Ints.only (k : Ints w l h A c ys) (a : Only lo hi w w') (hd : h ≤ lo ∨ hi ≤ l) (hs : h ≤ w.heap.size) : Ints w' l h A c ys :=
  k.keep fun p h1 h2 => ⟨World.cell?_of_block (a.block p.block (by omega) (by omega)), World.frozen?_of_block (a.block p.block (by omega) (by omega))⟩
end

theorem nat_eq_lit (n m : Nat) : ((n : Int) == (m : Int)) = decide (n = m) := by
  rw [Bool.eq_iff_iff]; simp; omega

/-! ### numbers of a list -/
def inB (n lo hi : Int) : Bool := decide (lo ≤ n ∧ n ≤ hi)
theorem inB_true {n lo hi : Int} (h1 : lo ≤ n) (h2 : n ≤ hi) : inB n lo hi = true := by simp [inB, h1, h2]
theorem inB_false {n lo hi : Int} (h : n < lo ∨ hi < n) : inB n lo hi = false := by simp [inB]; omega
theorem inB_of {n lo hi : Int} (h : inB n lo hi = true) : lo ≤ n ∧ n ≤ hi := by simpa [inB] using h
theorem all_false_at {p : Int → Bool} {ys : List Int} {k : Nat} {y : Int} (hk : ys[k]? = some y) (h : p y = false) : ys.all p = false := by
  rw [List.all_eq_false]
  exact ⟨y, List.mem_of_getElem? hk, by simp [h]⟩
theorem all_take_succ {p : Int → Bool} {ys : List Int} {k : Nat} {y : Int} (hk : ys[k]? = some y) (h : p y = true) (h0 : (ys.take k).all p = true) : (ys.take (k + 1)).all p = true := by
  rw [List.take_add_one, hk, List.all_append, h0]
  simp [h]
theorem take_succ_some {α : Type} {l : List α} {k : Nat} {x : α} (h : l[k]? = some x) : l.take (k + 1) = l.take k ++ [x] := by
  rw [List.take_add_one, h]; rfl
theorem zip_some {α β γ : Type} {f : α → β → γ} {a : List α} {b : List β} {k : Nat} {x : α} {y : β} (hx : a[k]? = some x) (hy : b[k]? = some y) : (List.zipWith f a b)[k]? = some (f x y) := by
  simp [List.getElem?_zipWith, hx, hy]
/-- a list is a vector: three numbers from 0 to 20 -/
def vecB (ys : List Int) : Bool := decide (ys.length = 3) && ys.all (fun n => inB n 0 20)
theorem vec_form {ys : List Int} (h : vecB ys = true) : ∃ a b c, ys = [a, b, c] ∧ 0 ≤ a ∧ a ≤ 20 ∧ 0 ≤ b ∧ b ≤ 20 ∧ 0 ≤ c ∧ c ≤ 20 := by
  simp only [vecB, Bool.and_eq_true, decide_eq_true_eq] at h
  match ys, h.1 with
  | [a, b, c], _ =>
    have := h.2
    simp only [List.all_cons, List.all_nil, Bool.and_true, Bool.and_eq_true, inB, decide_eq_true_eq] at this
    exact ⟨a, b, c, rfl, by omega, by omega, by omega, by omega, by omega, by omega⟩
theorem vec_len {ys : List Int} (h : vecB ys = true) : ys.length = 3 := by
  simp only [vecB, Bool.and_eq_true, decide_eq_true_eq] at h; exact h.1
theorem vec_at {ys : List Int} (h : vecB ys = true) {k : Nat} {y : Int} (hk : ys[k]? = some y) : 0 ≤ y ∧ y ≤ 20 := by
  simp only [vecB, Bool.and_eq_true, List.all_eq_true] at h
  have := h.2 y (List.mem_of_getElem? hk)
  exact inB_of this
theorem vec_mk {a b c : Int} (h : 0 ≤ a ∧ a ≤ 20 ∧ 0 ≤ b ∧ b ≤ 20 ∧ 0 ≤ c ∧ c ≤ 20) : vecB [a, b, c] = true := by
  simp [vecB, inB]; omega
/-- numbers of one list are nowhere greater than another's -/
def fitsB (a b : List Int) : Bool := (List.zipWith (fun x y => decide (x ≤ y)) a b).all id
def addL (a b : List Int) (t : Int) : List Int := List.zipWith (fun x y => x + t * y) a b
def maxL (a b : List Int) : List Int := List.zipWith max a b
def mulL (a b : List Int) : List Int := List.zipWith (· * ·) a b
def vfitsB (a b : List Int) : Bool := vecB a && vecB b && fitsB a b
end Go.Proofs.Ytcmampicgdobcaa
